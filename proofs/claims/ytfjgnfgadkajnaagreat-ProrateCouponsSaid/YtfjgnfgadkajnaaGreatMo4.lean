/- The division of two words by one. -/
import Derived.Test.YtfjgnfgadkajnaaGreatMo1
import Derived.Test.YtfjgnfgadkajnaaGreatShelf
namespace Go.Proofs.YtfjgnfgadkajnaaGreat
open Go Go.RowKit
set_option linter.unusedSimpArgs false
set_option linter.unusedVariables false
set_option linter.deprecated false
def u64m : Int := 18446744073709551616
theorem wu_eq (n : Int) : wu n = n % 18446744073709551616 := by
  unfold wu IntKind.wrap
  simp [IntKind.bits, IntKind.signed]
/-! One digit of the quotient. -/
section
variable {U d a b Y q h : Int}
theorem mulY (hY : Y = a * 4294967296 + b) : q * Y = q * a * 4294967296 + q * b := by subst hY; grind
theorem dig_lt (hU : U < Y) (hd : d < 4294967296) (hY0 : 0 < Y) : (U * 4294967296 + d) / Y < 4294967296 :=
  (Int.ediv_lt_iff_lt_mul hY0).2 (by omega)
theorem dig_ge (hU : 0 ≤ U) (hd : 0 ≤ d) (hY0 : 0 < Y) : 0 ≤ (U * 4294967296 + d) / Y := Int.ediv_nonneg (by omega) (by omega)
/-- The estimate is not too small. -/
theorem dig_first (hY : Y = a * 4294967296 + b) (ha : 0 < a) (hb : 0 ≤ b) (hU : 0 ≤ U) (hd : d < 4294967296) : (U * 4294967296 + d) / Y ≤ U / a := by
  have hY0 : 0 < Y := by omega
  have h2 : U < (U / a + 1) * a := Int.lt_ediv_add_one_mul_self U ha
  have h0 : 0 ≤ U / a := Int.ediv_nonneg hU (by omega)
  refine Int.lt_add_one_iff.1 ((Int.ediv_lt_iff_lt_mul hY0).2 ?_)
  have h3 := mulY (q := U / a + 1) hY
  have h4 : 0 ≤ (U / a + 1) * b := Int.mul_nonneg (by omega) hb
  omega
theorem dig_keep (hY : Y = a * 4294967296 + b) (hY0 : 0 < Y) (hI : q * a + h = U) (hU : U < Y) (hd : d < 4294967296) (hQ : (U * 4294967296 + d) / Y ≤ q) (hc : 4294967296 ≤ q ∨ 4294967296 * h + d < q * b) : (U * 4294967296 + d) / Y ≤ q - 1 := by
  rcases hc with hc | hc
  · have := dig_lt hU hd hY0; omega
  · have h3 := mulY (q := q) hY
    have : (U * 4294967296 + d) / Y < q := (Int.ediv_lt_iff_lt_mul hY0).2 (by omega)
    omega
theorem dig_done (hY : Y = a * 4294967296 + b) (hY0 : 0 < Y) (hI : q * a + h = U) (hQ : (U * 4294967296 + d) / Y ≤ q) (hc : q * b ≤ 4294967296 * h + d) : q = (U * 4294967296 + d) / Y := by
  have h3 := mulY (q := q) hY
  have := (Int.le_ediv_iff_mul_le hY0 (a := q) (b := U * 4294967296 + d)).2 (by omega)
  omega
theorem dig_break (hY : Y = a * 4294967296 + b) (hY0 : 0 < Y) (ha : 0 < a) (hb : 0 ≤ b) (hb2 : b < 4294967296) (hI : q * a + h = U) (hU0 : 0 ≤ U) (hU : U < Y) (hd : 0 ≤ d) (hQ : (U * 4294967296 + d) / Y ≤ q) (hh : 4294967296 ≤ h) : q = (U * 4294967296 + d) / Y := by
  have q0 : 0 ≤ q := Int.le_trans (dig_ge hU0 hd hY0) hQ
  have q1 : q < 4294967296 := by
    refine Int.lt_of_mul_lt_mul_right (a := a) ?_ (by omega)
    omega
  have h4 : q * b ≤ 4294967296 * b := Int.mul_le_mul_of_nonneg_right (by omega) hb
  exact dig_done hY hY0 hI hQ (by omega)
theorem dig_rem (hY0 : 0 < Y) (hq : q = (U * 4294967296 + d) / Y) : (U * 4294967296 + d) - q * Y = (U * 4294967296 + d) % Y ∧ 0 ≤ (U * 4294967296 + d) % Y ∧ (U * 4294967296 + d) % Y < Y := by
  refine ⟨?_, Int.emod_nonneg _ (by omega), Int.emod_lt_of_pos _ hY0⟩
  have := Int.mul_ediv_add_emod (U * 4294967296 + d) Y
  subst hq
  rw [Int.mul_comm] at this
  omega
theorem wu_rem {r : Int} (h : U * 4294967296 + d - q * Y = r) (h0 : 0 ≤ r) (h1 : r < 18446744073709551616) : wu (wu (wu (U * 4294967296) + d) - wu (q * Y)) = r := by
  generalize q * Y = m at *
  simp only [wu_eq]
  omega
end
/-- The quotient and the rest, put together. -/
theorem div_join {N y p Y Q r2 : Int} (hp : 0 < p) (hy : 0 < y) (hY : Y = y * p) (h : N * p = Q * Y + r2) (h0 : 0 ≤ r2) (h1 : r2 < Y) : Q = N / y ∧ r2 / p = N % y := by
  have e : r2 = (N - Q * y) * p := by subst hY; grind
  have g0 : 0 ≤ N - Q * y := by
    by_cases c : N - Q * y < 0
    · have : (N - Q * y) * p < 0 := Int.mul_neg_of_neg_of_pos c hp
      omega
    · omega
  have g1 : N - Q * y < y := by
    refine Int.lt_of_mul_lt_mul_right (a := p) ?_ (by omega)
    rw [← e, ← hY]; exact h1
  have hQ : Q = N / y := by
    have := Int.mul_ediv_add_emod N y
    have a1 := Int.emod_nonneg N (show y ≠ 0 by omega)
    have a2 := Int.emod_lt_of_pos N hy
    have l1 : Q ≤ N / y := (Int.le_ediv_iff_mul_le hy).2 (by omega)
    have l2 : N / y < Q + 1 := (Int.ediv_lt_iff_lt_mul hy).2 (by rw [Int.add_mul, Int.one_mul]; omega)
    omega
  refine ⟨hQ, ?_⟩
  rw [e, Int.mul_ediv_cancel _ (by omega)]
  have := Int.mul_ediv_add_emod N y
  rw [← hQ, Int.mul_comm] at this
  omega
end Go.Proofs.YtfjgnfgadkajnaaGreat
/- bits.Div64, scale. -/
namespace Go.Proofs.YtfjgnfgadkajnaaGreat
open Go Go.RowKit
set_option linter.unusedSimpArgs false
set_option linter.unusedVariables false
set_option linter.deprecated false
def gMul : List V → Prop × V
  | [.int .u64 x, .int .u64 y] => (0 ≤ x ∧ x < u64m ∧ 0 ≤ y ∧ y < u64m, .tup [.int .u64 (x * y / u64m), .int .u64 (x * y % u64m)])
  | _ => (False, .any)
theorem mul64_p : PureC Tryz.prog UT 50 gMul := by
  refine PureC.leaf Tryz.func50 (by kernel_rfl : Tryz.f50.body = some ((Tryz.f50.body).getD .skip)) (by kernel_rfl) fun vs M w cargs hv hB hs ha => ?_
  match vs, hv, hs, ha with
  | [.int .u64 x, .int .u64 y], hv, hs, ha =>
  have h0 := (ha 0 _ rfl).int_inv
  have h2 := (ha 1 _ rfl).int_inv
  have h1 := args_two hs
  rw [h0, h2] at h1
  rw [h1]
  obtain ⟨h3, h4, h5, h6⟩ : 0 ≤ x ∧ x < u64m ∧ 0 ≤ y ∧ y < u64m := hv
  unfold u64m at h4 h6
  obtain ⟨x, rfl⟩ := Int.eq_ofNat_of_zero_le h3
  obtain ⟨y, rfl⟩ := Int.eq_ofNat_of_zero_le h5
  refine (Tryz.bits_Mul64 x y (by omega) (by omega) w).mono ?_
  rintro e w' ⟨he, rfl⟩
  refine ⟨_, he, fun M' => ?_, Below.refl _ _⟩
  refine .tup _ _ rfl fun i v hi => ?_
  match i, hi with
  | 0, hi =>
    obtain rfl : V.int .u64 ((x : Int) * (y : Int) / u64m) = v := by simpa using hi
    rw [show (x : Int) * (y : Int) / u64m = ((x * y / 18446744073709551616 : Nat) : Int) by unfold u64m; rw [Int.natCast_ediv, Int.natCast_mul]; rfl]
    exact .int _ _
  | 1, hi =>
    obtain rfl : V.int .u64 ((x : Int) * (y : Int) % u64m) = v := by simpa using hi
    rw [show (x : Int) * (y : Int) % u64m = ((x * y % 18446744073709551616 : Nat) : Int) by unfold u64m; rw [Int.natCast_emod, Int.natCast_mul]; rfl]
    exact .int _ _
def gLz : List V → Prop × V
  | [.int .u64 x] => (0 ≤ x ∧ x ≤ 18446744073709551615, .int .i64 (64 - (Lib.bitLen x.toNat : Int)))
  | _ => (False, .any)
theorem lz_p : PureC Tryz.prog UT 64 gLz := by
  refine PureC.leaf Tryz.func64 (by kernel_rfl : Tryz.f64.body = some ((Tryz.f64.body).getD .skip)) (by kernel_rfl) fun vs M w cargs hv hB hs ha => ?_
  match vs, hv, hs, ha with
  | [.int .u64 x], hv, hs, ha =>
  have h0 := (ha 0 _ rfl).int_inv
  have h1 := args_one hs
  rw [h0] at h1
  rw [h1]
  refine (Tryz.bits_LeadingZeros64 x w hv.1 hv.2).mono ?_
  rintro e w' ⟨he, rfl⟩
  exact ⟨_, he, fun M' => .int _ _, Below.refl _ _⟩
theorem and_mask {x : Int} (h0 : 0 ≤ x) (h1 : x < 18446744073709551616) : bits .and .u64 x 4294967295 = x % 4294967296 := by
  obtain ⟨n, rfl⟩ := Int.eq_ofNat_of_zero_le h0
  have := bits_and_u64_nat n 4294967295 (by omega) (by omega)
  rw [show ((4294967295 : Nat) : Int) = 4294967295 from rfl] at this
  rw [this, show (4294967295 : Nat) = 2 ^ 32 - 1 from rfl, Nat.and_two_pow_sub_one_eq_mod]
  omega
theorem or_sum {m c : Int} {s : Nat} (h0 : 0 ≤ m) (hc : 0 ≤ c) (hc2 : c < 2 ^ s) (hb : m * 2 ^ s + c < 18446744073709551616) : bits .or .u64 (m * 2 ^ s) c = m * 2 ^ s + c := by
  obtain ⟨m, rfl⟩ := Int.eq_ofNat_of_zero_le h0
  obtain ⟨c, rfl⟩ := Int.eq_ofNat_of_zero_le hc
  have e : ((m : Int) * 2 ^ s) = ((m * 2 ^ s : Nat) : Int) := by rw [Int.natCast_mul, Int.natCast_pow]; rfl
  have hc3 : c < 2 ^ s := by
    have : ((c : Nat) : Int) < ((2 ^ s : Nat) : Int) := by rw [Int.natCast_pow]; exact hc2
    omega
  rw [e] at hb ⊢
  rw [bits_or_u64_nat _ _ (by omega) (by omega), Nat.mul_comm m, ← Nat.two_pow_add_eq_or_of_lt hc3]
  omega
/-- The first estimate and its rest. -/
theorem est {U d a b Y : Int} (hY : Y = a * 4294967296 + b) (ha : 0 < a) (hb : 0 ≤ b) (hU : 0 ≤ U) (hd : d < 4294967296) : ∃ q h : Int, U / a = q ∧ 0 ≤ q ∧ U - q * a = h ∧ q * a + h = U ∧ (U * 4294967296 + d) / Y ≤ q ∧ 0 ≤ h ∧ h < a ∧ q ≤ U ∧ 0 ≤ q * a := by
  have h1 := Int.ediv_nonneg hU (Int.le_of_lt ha)
  have h2 : U / a * a ≤ U := Int.ediv_mul_le U (by omega)
  have h3 : U < (U / a + 1) * a := Int.lt_ediv_add_one_mul_self U ha
  rw [Int.add_mul, Int.one_mul] at h3
  have h4 := dig_first hY ha hb hU hd
  have h5 := Int.ediv_le_self a hU
  have h6 : 0 ≤ U / a * a := Int.mul_nonneg h1 (Int.le_of_lt ha)
  refine ⟨U / a, U - U / a * a, rfl, h1, rfl, ?_, h4, ?_, ?_, h5, h6⟩ <;> (clear h4 h5 h1; generalize U / a * a = m at *; omega)
def gDiv : List V → Prop × V
  | [.int .u64 hi, .int .u64 lo, .int .u64 y] => (0 ≤ hi ∧ hi < y ∧ 0 ≤ lo ∧ lo < u64m ∧ y < u64m, .tup [.int .u64 ((hi * u64m + lo) / y), .int .u64 ((hi * u64m + lo) % y)])
  | _ => (False, .any)
theorem pow_sp (s : Nat) (h : s ≤ 63) : (2 : Int) ^ s * 2 ^ (64 - s) = 18446744073709551616 := by
  rw [← Int.pow_add, show s + (64 - s) = 64 by omega]; rfl
theorem bl_spec : ∀ x : Nat, x ≠ 0 → x < 2 ^ 64 → x < 2 ^ Lib.bitLen x ∧ 2 ^ (Lib.bitLen x - 1) ≤ x ∧ 1 ≤ Lib.bitLen x := fun x => by
  induction x using Nat.strongRecOn with
  | ind x ih =>
    intro h0 h
    rw [Lib.bitLen_half x h0 h]
    by_cases h1 : x / 2 = 0
    · rw [h1, show Lib.bitLen 0 = 0 from rfl]
      simp; omega
    · obtain ⟨a1, a2, a3⟩ := ih (x / 2) (by omega) h1 (by omega)
      obtain ⟨k, hk⟩ : ∃ k, Lib.bitLen (x / 2) = k + 1 := ⟨Lib.bitLen (x / 2) - 1, by omega⟩
      rw [hk] at a1 a2 ⊢
      rw [show k + 1 - 1 = k by omega] at a2
      refine ⟨?_, ?_, by omega⟩
      · rw [Nat.add_comm, Nat.pow_succ]; omega
      · rw [show 1 + (k + 1) - 1 = k + 1 by omega, Nat.pow_succ]; omega
/-- What the division starts from. -/
theorem div_start {y : Int} (h0 : 0 < y) (h1 : y < u64m) : ∃ s : Nat, s ≤ 63 ∧ 64 - (Lib.bitLen y.toNat : Int) = s ∧ 9223372036854775808 ≤ y * 2 ^ s ∧ y * 2 ^ s < 18446744073709551616 := by
  obtain ⟨n, rfl⟩ := Int.eq_ofNat_of_zero_le (Int.le_of_lt h0)
  unfold u64m at h1
  have hn : n ≠ 0 := by omega
  obtain ⟨b1, b3, _⟩ := bl_spec n hn (by omega)
  have hL : Lib.bitLen n ≤ 64 := Lib.bitLen_le n 64 (by omega) (by omega)
  have hL0 : Lib.bitLen n ≠ 0 := fun e => by rw [e] at b1; simp at b1; omega
  refine ⟨64 - Lib.bitLen n, by omega, by rw [Int.toNat_natCast]; omega, ?_, ?_⟩
  · have : 2 ^ (Lib.bitLen n - 1) * 2 ^ (64 - Lib.bitLen n) ≤ n * 2 ^ (64 - Lib.bitLen n) := Nat.mul_le_mul_right _ b3
    rw [← Nat.pow_add, show Lib.bitLen n - 1 + (64 - Lib.bitLen n) = 63 by omega] at this
    have e : ((n : Int) * 2 ^ (64 - Lib.bitLen n)) = ((n * 2 ^ (64 - Lib.bitLen n) : Nat) : Int) := by rw [Int.natCast_mul, Int.natCast_pow]; rfl
    rw [e]
    omega
  · have : n * 2 ^ (64 - Lib.bitLen n) < 2 ^ Lib.bitLen n * 2 ^ (64 - Lib.bitLen n) := Nat.mul_lt_mul_of_pos_right b1 (Nat.two_pow_pos _)
    rw [← Nat.pow_add, show Lib.bitLen n + (64 - Lib.bitLen n) = 64 by omega] at this
    have e : ((n : Int) * 2 ^ (64 - Lib.bitLen n)) = ((n * 2 ^ (64 - Lib.bitLen n) : Nat) : Int) := by rw [Int.natCast_mul, Int.natCast_pow]; rfl
    rw [e]
    omega
noncomputable def tDiv : Tab
  | 64 => gLz
  | _ => gNo
theorem tDiv_ok : ∀ f, PureC Tryz.prog UT f (tDiv f) := fun f => by
  unfold tDiv
  split
  · exact lz_p
  · exact PureC.no
set_option maxHeartbeats 4000000 in
theorem div64_p : PureC Tryz.prog UT 51 gDiv := by
  have hG := tDiv_ok
  refine PureC.of_awQ Tryz.func51 body51 nm51 res51 fun vs hv => ?_
  match vs, hv with
  | [.int .u64 hi, .int .u64 lo, .int .u64 y], hv =>
  obtain ⟨g0, g1, g2, g3, g4⟩ : 0 ≤ hi ∧ hi < y ∧ 0 ≤ lo ∧ lo < u64m ∧ y < u64m := hv
  have e1 : decide (y = 0) = false := decide_eq_false (by omega)
  have e2 : decide (y ≤ hi) = false := decide_eq_false (by omega)
  obtain ⟨s, s1, s2, s3, s4⟩ := div_start (show 0 < y by omega) g4
  unfold u64m at g3 g4
  have hpp := pow_sp s s1
  have hp0 : (0 : Int) < 2 ^ s := Int.pow_pos (by decide)
  have hr0 : (0 : Int) < 2 ^ (64 - s) := Int.pow_pos (by decide)
  have s5 : ((s : Int)).toNat = s := Int.toNat_natCast s
  have s6 : (64 - (s : Int)).toNat = 64 - s := by omega
  have hku : inK .u64 (s : Int) := inK_u64.2 (by omega)
  refine ⟨by rw [nt51]; simp, fun C hN Q hQ => ?_⟩
  rw [nt51] at hN
  unfold c51
  refine aw_seq (aw_region (EF := EF0) hG (by rw [hN]; exact tr51_0) ?_)
  simp only [a51_0, go_sem, simprocAttr]
  refine aw_seq ?_
  refine aw_seq (aw_region (EF := EF0) hG (by rw [hN]; exact tr51_1) ?_)
  simp only [a51_1, go_sem, simprocAttr, e1]
  refine aw_condF rfl ?_
  refine aw_skip ?_
  try simp only [go_sem, simprocAttr]
  refine aw_seq ?_
  refine aw_seq (aw_region (EF := EF0) hG (by rw [hN]; exact tr51_3) ?_)
  simp only [a51_3, go_sem, simprocAttr, e2]
  refine aw_condF rfl ?_
  refine aw_skip ?_
  try simp only [go_sem, simprocAttr]
  refine aw_seq ?_
  refine aw_seq (aw_region (EF := EF0) hG (by rw [hN]; exact tr51_5) ?_)
  simp only [a51_5, go_sem, simprocAttr]
  refine aw_cond (b := _) rfl (fun hc5 => ?_) (fun hc5 => ?_)
  · simp only [hcL] at hc5
    have hz : hi = 0 := by simpa using hc5
    have hq : inK .u64 (lo / y) := inK_u64.2 ⟨Int.ediv_nonneg g2 (by omega), by have := Int.ediv_le_self y g2; omega⟩
    subst hz
    refine aw_seq (aw_regionD (EF := EF0) hG mixed (by rw [hN]; exact tr51_6) ok51_6 ?_)
    simp only [a51_6, d51_6, go_sem, simprocAttr, hq, g2, (show (0 : Int) < y from g1)]
    refine aw_ret ?_
    show Q _ _
    refine hQ _ _ (.inl rfl) ?_ ?_ ?_ <;> simp only [outφ, outV, AR.res, go_sem, simprocAttr, gDiv, Int.zero_mul, Int.zero_add]
  · simp only [hcL] at hc5
    refine aw_skip ?_
    try simp only [go_sem, simprocAttr]
    refine aw_seq (aw_region (EF := EF0) hG (by rw [hN]; exact tr51_7) ?_)
    simp only [a51_7, go_sem, simprocAttr, tDiv, gLz, s2, hku]
    (repeat' apply And.intro) <;> (try first | omega | ((fail_if_success refine idW ?_); (fail_if_success refine idS ?_); intros; (repeat' apply And.intro) <;> first | assumption | omega | (simp_all; done)) | skip)
    obtain ⟨Y, hY⟩ : ∃ Y, Y = y * 2 ^ s := ⟨_, rfl⟩
    rw [← hY] at s3 s4
    have hY1 : wu (y * 2 ^ s) = Y := by rw [wu_eq, ← hY]; omega
    have hs64 : (0 : Int) ≤ (s : Int) ∧ (s : Int) ≤ 64 := by omega
    have hs65 : (0 : Int) ≤ 64 - (s : Int) ∧ 64 - (s : Int) ≤ 64 := by omega
    refine aw_seq (aw_region (EF := EF0) hG (by rw [hN]; exact tr51_8) ?_)
    simp only [a51_8, go_sem, simprocAttr, s5, hs64, hY1]
    obtain ⟨a, ha⟩ : ∃ a, a = Y / 4294967296 := ⟨_, rfl⟩
    obtain ⟨b, hb⟩ : ∃ b, b = Y % 4294967296 := ⟨_, rfl⟩
    have hYab : Y = a * 4294967296 + b := by omega
    have hb' : bits .and .u64 Y 4294967295 = b := by rw [and_mask (by omega) s4, hb]
    refine aw_seq (aw_region (EF := EF0) hG (by rw [hN]; exact tr51_9) ?_)
    simp only [a51_9, go_sem, simprocAttr, ← ha]
    (repeat' apply And.intro) <;> (try first | omega | ((fail_if_success refine idW ?_); (fail_if_success refine idS ?_); intros; (repeat' apply And.intro) <;> first | assumption | omega | (simp_all; done)))
    refine aw_seq (aw_region (EF := EF0) hG (by rw [hN]; exact tr51_10) ?_)
    simp only [a51_10, go_sem, simprocAttr, hb']
    obtain ⟨U, hU⟩ : ∃ U, U = hi * 2 ^ s + lo / 2 ^ (64 - s) := ⟨_, rfl⟩
    have hlo0 : 0 ≤ lo / 2 ^ (64 - s) := Int.ediv_nonneg g2 (by omega)
    have hlo1 : lo / 2 ^ (64 - s) < 2 ^ s := (Int.ediv_lt_iff_lt_mul hr0).2 (by rw [hpp]; exact g3)
    have hhi : hi * 2 ^ s + 2 ^ s ≤ Y := by have : (hi + 1) * 2 ^ s ≤ y * 2 ^ s := Int.mul_le_mul_of_nonneg_right (by omega) (by omega); rw [Int.add_mul, Int.one_mul] at this; omega
    have hhi0 : 0 ≤ hi * 2 ^ s := Int.mul_nonneg g0 (by omega)
    have hw1 : wu (hi * 2 ^ s) = hi * 2 ^ s := by rw [wu_eq]; omega
    have hor : bits .or .u64 (hi * 2 ^ s) (lo / 2 ^ (64 - s)) = U := by rw [or_sum g0 hlo0 hlo1 (by omega), hU]
    have hUY : U < Y := by omega
    have hU0 : 0 ≤ U := by omega
    have hk64 : inK .u64 (64 - (s : Int)) := inK_u64.2 (by omega)
    refine aw_seq (aw_region (EF := EF0) hG (by rw [hN]; exact tr51_11) ?_)
    simp only [a51_11, go_sem, simprocAttr, inI, s5, s6, hs64, hs65, hw1, hor, hk64]
    obtain ⟨E, hE⟩ : ∃ E, E = lo * 2 ^ s % 18446744073709551616 := ⟨_, rfl⟩
    have hw2 : wu (lo * 2 ^ s) = E := by rw [wu_eq, hE]
    have hNU : (hi * 18446744073709551616 + lo) * 2 ^ s = U * 18446744073709551616 + E := by have e1 : lo / 2 ^ (64 - s) = lo * 2 ^ s / 18446744073709551616 := (by rw [← hpp, Int.mul_comm (2 ^ s), Int.mul_ediv_mul_of_pos_left _ _ hp0]); rw [e1] at hU; have e2 : (hi * 18446744073709551616 + lo) * 2 ^ s = hi * 2 ^ s * 18446744073709551616 + lo * 2 ^ s := (by grind); omega
    refine aw_seq (aw_region (EF := EF0) hG (by rw [hN]; exact tr51_12) ?_)
    simp only [a51_12, go_sem, simprocAttr, s5, hs64, hw2]
    obtain ⟨d1, hd1⟩ : ∃ d, d = E / 4294967296 := ⟨_, rfl⟩
    obtain ⟨d0, hd0⟩ : ∃ d, d = E % 4294967296 := ⟨_, rfl⟩
    have hE0 : 0 ≤ E ∧ E < 18446744073709551616 := by omega
    have hd0' : bits .and .u64 E 4294967295 = d0 := by rw [and_mask hE0.1 hE0.2, hd0]
    have hY0 : 0 < Y := by omega
    have ha0 : 0 < a := by omega
    have hb0 : 0 ≤ b := by omega
    have hb1 : b < 4294967296 := by omega
    have hd10 : 0 ≤ d1 := by omega
    have hd11 : d1 < 4294967296 := by omega
    have hd00 : 0 ≤ d0 := by omega
    have hd01 : d0 < 4294967296 := by omega
    have ha1 : a < 4294967296 := by omega
    obtain ⟨q0, h0, hq0, j1, j2, j3, j4, j5, j6, j7, j8⟩ := est (U := U) (d := d1) hYab ha0 hb0 hU0 hd11
    have hk1 : inK .u64 q0 := inK_u64.2 (by omega)
    have hk2 : inK .u64 (q0 * a) := inK_u64.2 (by omega)
    have hk3 : inK .u64 h0 := inK_u64.2 (by omega)
    refine aw_seq (aw_region (EF := EF0) hG (by rw [hN]; exact tr51_13) ?_)
    simp only [a51_13, go_sem, simprocAttr, ← hd1]
    (repeat' apply And.intro) <;> (try first | omega | ((fail_if_success refine idW ?_); (fail_if_success refine idS ?_); intros; (repeat' apply And.intro) <;> first | assumption | omega | (simp_all; done)))
    refine aw_seq (aw_region (EF := EF0) hG (by rw [hN]; exact tr51_14) ?_)
    simp only [a51_14, go_sem, simprocAttr, hd0']
    refine aw_seq (aw_region (EF := EF0) hG (by rw [hN]; exact tr51_15) ?_)
    simp only [a51_15, go_sem, simprocAttr, hq0, hk1, hU0, ha0]
    refine aw_seq (aw_region (EF := EF0) hG (by rw [hN]; exact tr51_16) ?_)
    simp only [a51_16, go_sem, simprocAttr, inI, hk2, hk3, j2]
    refine aw_cut (α := Unit) (fun u => (True)) (fun u => ⟨mkE [(2, V.int IntKind.u64 Y), (8, V.int IntKind.u64 ↑s), (9, V.int IntKind.u64 a), (10, V.int IntKind.u64 b), (11, V.int IntKind.u64 U), (13, V.int IntKind.u64 d1), (14, V.int IntKind.u64 d0), (15, .int .u64 ((U * 4294967296 + d1) / Y))], mkH []⟩) ?_ ?_
    · intro KCb0 hKCb0
      refine aw_block ?_
      refine aw_loop (α := Int × Int) (fun γ => (γ.1 * a + γ.2 = U) ∧ ((U * 4294967296 + d1) / Y ≤ γ.1) ∧ (0 ≤ γ.2) ∧ (γ.2 < 4294967296)) (fun γ => ⟨mkE [(2, V.int IntKind.u64 Y), (8, V.int IntKind.u64 ↑s), (9, V.int IntKind.u64 a), (10, V.int IntKind.u64 b), (11, V.int IntKind.u64 U), (13, V.int IntKind.u64 d1), (14, V.int IntKind.u64 d0), (15, .int .u64 γ.1), (16, .int .u64 γ.2)], mkH []⟩) (fun γ => γ.1.toNat) (q0, h0) ⟨j3, j4, j5, Int.lt_trans j6 ha1⟩ ?_ ?_
      · refine Le.mk _ _ ?_ ?_ rfl <;> simp only [go_sem, simprocAttr] <;> (repeat' apply And.intro) <;> (try first | rfl | exact wk_frzb rfl rfl rfl | exact wk_fn rfl | exact .nilo _ _ _ rfl rfl)
      · rintro ⟨q, h⟩ ⟨i1, i2, i3, i4⟩ KL0 hKL0
        try dsimp only at *
        have qq0 : 0 ≤ q := Int.le_trans (dig_ge hU0 hd10 hY0) i2
        have qa0 : 0 ≤ q * a := Int.mul_nonneg qq0 (by omega)
        have qle : q ≤ q * a := by have : q * 1 ≤ q * a := Int.mul_le_mul_of_nonneg_left (by omega) qq0; omega
        refine aw_seq ?_
        by_cases hq : 4294967296 ≤ q
        · skip
          refine aw_seq (aw_region (EF := EF0) hG (by rw [hN]; exact tr51_17) ?_)
          simp only [a51_17, go_sem, simprocAttr, inI, hq, decide_true]
          refine aw_condT rfl ?_
          refine aw_skip ?_
          try simp only [go_sem, simprocAttr]
          refine aw_block ?_
          have hkeep := dig_keep hYab hY0 i1 hUY hd11 i2 (by omega)
          have hg0 := dig_ge hU0 hd10 hY0
          have hk4 : inK .u64 (q - 1) := inK_u64.2 (by omega)
          have hk5 : inK .u64 (h + a) := inK_u64.2 (by omega)
          have hI2 : (q - 1) * a + (h + a) = U := by rw [Int.sub_mul, Int.one_mul]; omega
          refine aw_seq (aw_region (EF := EF0) hG (by rw [hN]; exact tr51_18) ?_)
          simp only [a51_18, go_sem, simprocAttr, inI, hk4]
          refine aw_seq (aw_region (EF := EF0) hG (by rw [hN]; exact tr51_19) ?_)
          simp only [a51_19, go_sem, simprocAttr, inI, hk5]
          refine aw_seq (aw_region (EF := EF0) hG (by rw [hN]; exact tr51_20) ?_)
          simp only [a51_20, go_sem, simprocAttr]
          refine aw_cond (b := _) rfl (fun hc20 => ?_) (fun hc20 => ?_)
          · simp only [hcL] at hc20
            have hbr := dig_break hYab hY0 ha0 hb0 hb1 hI2 hU0 hUY hd10 hkeep hc20
            refine aw_exit ?_
            simp only [go_sem, simprocAttr]
            refine hKCb0 (()) _ ?_ ?_
            · (try dsimp only); try trivial
            · refine Le.mk _ _ ?_ ?_ rfl <;> simp only [go_sem, simprocAttr, hbr] <;> (repeat' apply And.intro) <;> (try first | rfl | exact wk_frzb rfl rfl rfl | exact wk_fn rfl | exact .nilo _ _ _ rfl rfl)
          · simp only [hcL] at hc20
            refine aw_skip ?_
            try simp only [go_sem, simprocAttr]
            refine hKL0 (q - 1, h + a) _ ?_ ?_ ?_
            · (try dsimp only); exact ⟨hI2, hkeep, by omega, by omega⟩
            · (try dsimp only); omega
            · refine Le.mk _ _ ?_ ?_ rfl <;> simp only [go_sem, simprocAttr] <;> (repeat' apply And.intro) <;> (try first | rfl | exact wk_frzb rfl rfl rfl | exact wk_fn rfl | exact .nilo _ _ _ rfl rfl)
        · skip
          have hqb : q * b ≤ 4294967295 * b := Int.mul_le_mul_of_nonneg_right (by omega) hb0
          have hqb0 : 0 ≤ q * b := Int.mul_nonneg qq0 hb0
          have hm1 : inK .u64 (q * b) := inK_u64.2 (by omega)
          have hm2 : inK .u64 (4294967296 * h) := inK_u64.2 (by omega)
          have hm3 : inK .u64 (4294967296 * h + d1) := inK_u64.2 (by omega)
          refine aw_seq (aw_region (EF := EF0) hG (by rw [hN]; exact tr51_17) ?_)
          simp only [a51_17, go_sem, simprocAttr, inI, hq, decide_false, hm1, hm2, hm3]
          refine aw_cond (b := _) rfl (fun hb17 => ?_) (fun hb17 => ?_)
          · skip
            have hb18 : 4294967296 * h + d1 < q * b := by simpa using hb17
            refine aw_skip ?_
            try simp only [go_sem, simprocAttr]
            refine aw_block ?_
            have hkeep := dig_keep hYab hY0 i1 hUY hd11 i2 (by omega)
            have hg0 := dig_ge hU0 hd10 hY0
            have hk4 : inK .u64 (q - 1) := inK_u64.2 (by omega)
            have hk5 : inK .u64 (h + a) := inK_u64.2 (by omega)
            have hI2 : (q - 1) * a + (h + a) = U := by rw [Int.sub_mul, Int.one_mul]; omega
            refine aw_seq (aw_region (EF := EF0) hG (by rw [hN]; exact tr51_18) ?_)
            simp only [a51_18, go_sem, simprocAttr, inI, hk4]
            refine aw_seq (aw_region (EF := EF0) hG (by rw [hN]; exact tr51_19) ?_)
            simp only [a51_19, go_sem, simprocAttr, inI, hk5]
            refine aw_seq (aw_region (EF := EF0) hG (by rw [hN]; exact tr51_20) ?_)
            simp only [a51_20, go_sem, simprocAttr]
            refine aw_cond (b := _) rfl (fun hc20 => ?_) (fun hc20 => ?_)
            · simp only [hcL] at hc20
              have hbr := dig_break hYab hY0 ha0 hb0 hb1 hI2 hU0 hUY hd10 hkeep hc20
              refine aw_exit ?_
              simp only [go_sem, simprocAttr]
              refine hKCb0 (()) _ ?_ ?_
              · (try dsimp only); try trivial
              · refine Le.mk _ _ ?_ ?_ rfl <;> simp only [go_sem, simprocAttr, hbr] <;> (repeat' apply And.intro) <;> (try first | rfl | exact wk_frzb rfl rfl rfl | exact wk_fn rfl | exact .nilo _ _ _ rfl rfl)
            · simp only [hcL] at hc20
              refine aw_skip ?_
              try simp only [go_sem, simprocAttr]
              refine hKL0 (q - 1, h + a) _ ?_ ?_ ?_
              · (try dsimp only); exact ⟨hI2, hkeep, by omega, by omega⟩
              · (try dsimp only); omega
              · refine Le.mk _ _ ?_ ?_ rfl <;> simp only [go_sem, simprocAttr] <;> (repeat' apply And.intro) <;> (try first | rfl | exact wk_frzb rfl rfl rfl | exact wk_fn rfl | exact .nilo _ _ _ rfl rfl)
          · skip
            have hb18 : q * b ≤ 4294967296 * h + d1 := by simpa using hb17
            refine aw_exit ?_
            simp only [go_sem, simprocAttr]
            refine hKCb0 (()) _ ?_ ?_
            · (try dsimp only); try trivial
            · refine Le.mk _ _ ?_ ?_ rfl <;> simp only [go_sem, simprocAttr, dig_done hYab hY0 i1 i2 hb18] <;> (repeat' apply And.intro) <;> (try first | rfl | exact wk_frzb rfl rfl rfl | exact wk_fn rfl | exact .nilo _ _ _ rfl rfl)
    · rintro u k0
      obtain ⟨Q1, hQ1⟩ : ∃ Q, Q = (U * 4294967296 + d1) / Y := ⟨_, rfl⟩
      obtain ⟨f1, f2, f3⟩ := dig_rem hY0 hQ1
      have f4 := dig_lt hUY hd11 hY0
      have f5 := dig_ge hU0 hd10 hY0
      obtain ⟨R, hR⟩ : ∃ R, R = (U * 4294967296 + d1) % Y := ⟨_, rfl⟩
      rw [← hR] at f1 f2 f3
      rw [← hQ1] at f4 f5
      rw [← hQ1]
      have hw3 := wu_rem f1 f2 (by omega)
      refine aw_seq (aw_regionW (EF := EF0) hG (by rw [hN]; exact tr51_21) ?_)
      simp only [a51_21, go_sem, simprocAttr, inI, hw3]
      (repeat' apply And.intro) <;> (try first | omega | ((fail_if_success refine idW ?_); (fail_if_success refine idS ?_); intros; (repeat' apply And.intro) <;> first | assumption | omega | (simp_all; done)))
      obtain ⟨q0, h0, hq0, j1, j2, j3, j4, j5, j6, j7, j8⟩ := est (U := R) (d := d0) hYab ha0 hb0 f2 hd01
      have hk1 : inK .u64 q0 := inK_u64.2 (by omega)
      have hk2 : inK .u64 (q0 * a) := inK_u64.2 (by omega)
      have hk3 : inK .u64 h0 := inK_u64.2 (by omega)
      refine aw_seq (aw_region (EF := EF0) hG (by rw [hN]; exact tr51_22) ?_)
      simp only [a51_22, go_sem, simprocAttr, hq0, hk1, f2, ha0]
      refine aw_seq (aw_region (EF := EF0) hG (by rw [hN]; exact tr51_23) ?_)
      simp only [a51_23, go_sem, simprocAttr, inI, hk2, hk3, j2]
      refine aw_cut (α := Unit) (fun u => (True)) (fun u => ⟨mkE [(2, V.int IntKind.u64 Y), (8, V.int IntKind.u64 ↑s), (14, V.int IntKind.u64 d0), (15, V.int IntKind.u64 Q1), (17, V.int IntKind.u64 R), (18, .int .u64 ((R * 4294967296 + d0) / Y))], mkH []⟩) ?_ ?_
      · intro KCb2 hKCb2
        refine aw_block ?_
        refine aw_loop (α := Int × Int) (fun γ => (γ.1 * a + γ.2 = R) ∧ ((R * 4294967296 + d0) / Y ≤ γ.1) ∧ (0 ≤ γ.2) ∧ (γ.2 < 4294967296)) (fun γ => ⟨mkE [(2, V.int IntKind.u64 Y), (8, V.int IntKind.u64 ↑s), (9, V.int IntKind.u64 a), (10, V.int IntKind.u64 b), (14, V.int IntKind.u64 d0), (15, V.int IntKind.u64 Q1), (16, .int .u64 γ.2), (17, V.int IntKind.u64 R), (18, .int .u64 γ.1)], mkH []⟩) (fun γ => γ.1.toNat) (q0, h0) ⟨j3, j4, j5, Int.lt_trans j6 ha1⟩ ?_ ?_
        · refine Le.mk _ _ ?_ ?_ rfl <;> simp only [go_sem, simprocAttr] <;> (repeat' apply And.intro) <;> (try first | rfl | exact wk_frzb rfl rfl rfl | exact wk_fn rfl | exact .nilo _ _ _ rfl rfl)
        · rintro ⟨q, h⟩ ⟨i1, i2, i3, i4⟩ KL2 hKL2
          try dsimp only at *
          have qq0 : 0 ≤ q := Int.le_trans (dig_ge f2 hd00 hY0) i2
          have qa0 : 0 ≤ q * a := Int.mul_nonneg qq0 (by omega)
          have qle : q ≤ q * a := by have : q * 1 ≤ q * a := Int.mul_le_mul_of_nonneg_left (by omega) qq0; omega
          refine aw_seq ?_
          by_cases hq : 4294967296 ≤ q
          · skip
            refine aw_seq (aw_region (EF := EF0) hG (by rw [hN]; exact tr51_24) ?_)
            simp only [a51_24, go_sem, simprocAttr, inI, hq, decide_true]
            refine aw_condT rfl ?_
            refine aw_skip ?_
            try simp only [go_sem, simprocAttr]
            refine aw_block ?_
            have hkeep := dig_keep hYab hY0 i1 f3 hd01 i2 (by omega)
            have hg0 := dig_ge f2 hd00 hY0
            have hk4 : inK .u64 (q - 1) := inK_u64.2 (by omega)
            have hk5 : inK .u64 (h + a) := inK_u64.2 (by omega)
            have hI2 : (q - 1) * a + (h + a) = R := by rw [Int.sub_mul, Int.one_mul]; omega
            refine aw_seq (aw_region (EF := EF0) hG (by rw [hN]; exact tr51_25) ?_)
            simp only [a51_25, go_sem, simprocAttr, inI, hk4]
            refine aw_seq (aw_region (EF := EF0) hG (by rw [hN]; exact tr51_26) ?_)
            simp only [a51_26, go_sem, simprocAttr, inI, hk5]
            refine aw_seq (aw_region (EF := EF0) hG (by rw [hN]; exact tr51_27) ?_)
            simp only [a51_27, go_sem, simprocAttr]
            refine aw_cond (b := _) rfl (fun hc27 => ?_) (fun hc27 => ?_)
            · simp only [hcL] at hc27
              have hbr := dig_break hYab hY0 ha0 hb0 hb1 hI2 f2 f3 hd00 hkeep hc27
              refine aw_exit ?_
              simp only [go_sem, simprocAttr]
              refine hKCb2 (()) _ ?_ ?_
              · (try dsimp only); try trivial
              · refine Le.mk _ _ ?_ ?_ rfl <;> simp only [go_sem, simprocAttr, hbr] <;> (repeat' apply And.intro) <;> (try first | rfl | exact wk_frzb rfl rfl rfl | exact wk_fn rfl | exact .nilo _ _ _ rfl rfl)
            · simp only [hcL] at hc27
              refine aw_skip ?_
              try simp only [go_sem, simprocAttr]
              refine hKL2 (q - 1, h + a) _ ?_ ?_ ?_
              · (try dsimp only); exact ⟨hI2, hkeep, by omega, by omega⟩
              · (try dsimp only); omega
              · refine Le.mk _ _ ?_ ?_ rfl <;> simp only [go_sem, simprocAttr] <;> (repeat' apply And.intro) <;> (try first | rfl | exact wk_frzb rfl rfl rfl | exact wk_fn rfl | exact .nilo _ _ _ rfl rfl)
          · skip
            have hqb : q * b ≤ 4294967295 * b := Int.mul_le_mul_of_nonneg_right (by omega) hb0
            have hqb0 : 0 ≤ q * b := Int.mul_nonneg qq0 hb0
            have hm1 : inK .u64 (q * b) := inK_u64.2 (by omega)
            have hm2 : inK .u64 (4294967296 * h) := inK_u64.2 (by omega)
            have hm3 : inK .u64 (4294967296 * h + d0) := inK_u64.2 (by omega)
            refine aw_seq (aw_region (EF := EF0) hG (by rw [hN]; exact tr51_24) ?_)
            simp only [a51_24, go_sem, simprocAttr, inI, hq, decide_false, hm1, hm2, hm3]
            refine aw_cond (b := _) rfl (fun hb17 => ?_) (fun hb17 => ?_)
            · skip
              have hb18 : 4294967296 * h + d0 < q * b := by simpa using hb17
              refine aw_skip ?_
              try simp only [go_sem, simprocAttr]
              refine aw_block ?_
              have hkeep := dig_keep hYab hY0 i1 f3 hd01 i2 (by omega)
              have hg0 := dig_ge f2 hd00 hY0
              have hk4 : inK .u64 (q - 1) := inK_u64.2 (by omega)
              have hk5 : inK .u64 (h + a) := inK_u64.2 (by omega)
              have hI2 : (q - 1) * a + (h + a) = R := by rw [Int.sub_mul, Int.one_mul]; omega
              refine aw_seq (aw_region (EF := EF0) hG (by rw [hN]; exact tr51_25) ?_)
              simp only [a51_25, go_sem, simprocAttr, inI, hk4]
              refine aw_seq (aw_region (EF := EF0) hG (by rw [hN]; exact tr51_26) ?_)
              simp only [a51_26, go_sem, simprocAttr, inI, hk5]
              refine aw_seq (aw_region (EF := EF0) hG (by rw [hN]; exact tr51_27) ?_)
              simp only [a51_27, go_sem, simprocAttr]
              refine aw_cond (b := _) rfl (fun hc27 => ?_) (fun hc27 => ?_)
              · simp only [hcL] at hc27
                have hbr := dig_break hYab hY0 ha0 hb0 hb1 hI2 f2 f3 hd00 hkeep hc27
                refine aw_exit ?_
                simp only [go_sem, simprocAttr]
                refine hKCb2 (()) _ ?_ ?_
                · (try dsimp only); try trivial
                · refine Le.mk _ _ ?_ ?_ rfl <;> simp only [go_sem, simprocAttr, hbr] <;> (repeat' apply And.intro) <;> (try first | rfl | exact wk_frzb rfl rfl rfl | exact wk_fn rfl | exact .nilo _ _ _ rfl rfl)
              · simp only [hcL] at hc27
                refine aw_skip ?_
                try simp only [go_sem, simprocAttr]
                refine hKL2 (q - 1, h + a) _ ?_ ?_ ?_
                · (try dsimp only); exact ⟨hI2, hkeep, by omega, by omega⟩
                · (try dsimp only); omega
                · refine Le.mk _ _ ?_ ?_ rfl <;> simp only [go_sem, simprocAttr] <;> (repeat' apply And.intro) <;> (try first | rfl | exact wk_frzb rfl rfl rfl | exact wk_fn rfl | exact .nilo _ _ _ rfl rfl)
            · skip
              have hb18 : q * b ≤ 4294967296 * h + d0 := by simpa using hb17
              refine aw_exit ?_
              simp only [go_sem, simprocAttr]
              refine hKCb2 (()) _ ?_ ?_
              · (try dsimp only); try trivial
              · refine Le.mk _ _ ?_ ?_ rfl <;> simp only [go_sem, simprocAttr, dig_done hYab hY0 i1 i2 hb18] <;> (repeat' apply And.intro) <;> (try first | rfl | exact wk_frzb rfl rfl rfl | exact wk_fn rfl | exact .nilo _ _ _ rfl rfl)
      · rintro u k0
        obtain ⟨Q0, hQ0⟩ : ∃ Q, Q = (R * 4294967296 + d0) / Y := ⟨_, rfl⟩
        obtain ⟨t1, t2, t3⟩ := dig_rem hY0 hQ0
        have t4 := dig_lt f3 hd01 hY0
        have t5 := dig_ge f2 hd00 hY0
        obtain ⟨R2, hR2⟩ : ∃ x, x = (R * 4294967296 + d0) % Y := ⟨_, rfl⟩
        rw [← hR2] at t1 t2 t3
        rw [← hQ0] at t4 t5
        rw [← hQ0]
        have hw4 := wu_rem t1 t2 (by omega)
        have hw5 : wu (wu (Q1 * 4294967296) + Q0) = Q1 * 4294967296 + Q0 := by rw [wu_eq, wu_eq]; omega
        have hfin := div_join (N := hi * 18446744073709551616 + lo) (Q := Q1 * 4294967296 + Q0) hp0 (show 0 < y by omega) hY (by rw [hNU, Int.add_mul, show Q1 * 4294967296 * Y = Q1 * Y * 4294967296 by grind]; omega) t2 t3
        refine aw_seq (aw_regionW (EF := EF0) hG (by rw [hN]; exact tr51_28) ?_)
        simp only [a51_28, go_sem, simprocAttr, inI, hw4, hw5, s5, hs64]
        refine aw_ret ?_
        show Q _ _
        refine hQ _ _ (.inl rfl) ?_ ?_ ?_ <;> simp only [outφ, outV, AR.res, go_sem, simprocAttr, gDiv]
        unfold u64m; rw [← hfin.1, ← hfin.2]
end Go.Proofs.YtfjgnfgadkajnaaGreat
/- size, scale, Percent where nothing is too large, Up, total. -/
namespace Go.Proofs.YtfjgnfgadkajnaaGreat
open Go Go.RowKit
set_option linter.unusedSimpArgs false
set_option linter.unusedVariables false
set_option linter.deprecated false
theorem size_run (n : Int) (hn : inI n) (w : World) :
    Calls Tryz.prog 25 #[.int .i64 n] w fun e w' => e = .returned (.int .u64 (n.natAbs : Int)) ∧ w = w' := by
  obtain ⟨h1, h2⟩ := hn
  go_enter Tryz.func25, Tryz.ntmps25
  go_wp2_with (fail)
  all_goals go_ret
  · rename_i hs
    refine ⟨?_, rfl⟩
    have : IntKind.u64.wrap (-IntKind.u64.wrap n) = (n.natAbs : Int) := by have := wu_eq; unfold wu at this; rw [this, this]; omega
    exact congrArg (fun x => Ending.returned (Value.int .u64 x)) this
  · rename_i hs
    refine ⟨?_, rfl⟩
    exact congrArg (fun x => Ending.returned (Value.int .u64 x)) (show n = (n.natAbs : Int) by omega)
def gSize : List V → Prop × V
  | [.int .i64 n] => (inI n, .int .u64 (n.natAbs : Int))
  | _ => (False, .any)
theorem size_p : PureC Tryz.prog UT 25 gSize := by
  refine PureC.leaf Tryz.func25 (by kernel_rfl : Tryz.f25.body = some ((Tryz.f25.body).getD .skip)) (by kernel_rfl) fun vs M w cargs hv hB hs ha => ?_
  match vs, hv, hs, ha with
  | [.int .i64 n], hv, hs, ha =>
  have h0 := (ha 0 _ rfl).int_inv
  have h1 := args_one hs
  rw [h0] at h1
  rw [h1]
  refine (size_run n hv w).mono ?_
  rintro e w' ⟨he, rfl⟩
  exact ⟨_, he, fun M' => .int _ _, Below.refl _ _⟩
def gScale : List V → Prop × V
  | [.int .u64 a, .int .u64 b, .int .u64 y] => (0 ≤ a ∧ a < u64m ∧ 0 ≤ b ∧ b < u64m ∧ 0 < y ∧ y < u64m ∧ a * b / u64m < y, .tup [.int .u64 (a * b / y), .int .u64 (a * b % y), .bool true])
  | _ => (False, .any)
noncomputable def tScale : Tab
  | 50 => gMul
  | 51 => gDiv
  | _ => gNo
theorem tScale_ok : ∀ f, PureC Tryz.prog UT f (tScale f) := fun f => by
  unfold tScale
  split
  · exact mul64_p
  · exact div64_p
  · exact PureC.no
theorem scale_p : PureC Tryz.prog UT 27 gScale := by
  have hG := tScale_ok
  refine PureC.of_awQ Tryz.func27 body27 nm27 res27 fun vs hv => ?_
  match vs, hv with
  | [.int .u64 a, .int .u64 b, .int .u64 y], hv =>
  obtain ⟨h1, h2, h3, h4, h5, h6, h10⟩ : 0 ≤ a ∧ a < u64m ∧ 0 ≤ b ∧ b < u64m ∧ 0 < y ∧ y < u64m ∧ a * b / u64m < y := hv
  have hu : (0 : Int) < u64m := by decide
  have h7 : 0 ≤ a * b := Int.mul_nonneg h1 h3
  have h8 : 0 ≤ a * b / u64m := Int.ediv_nonneg h7 (by decide)
  have h9 : 0 ≤ a * b % u64m := Int.emod_nonneg _ (by decide)
  have h11 : a * b % u64m < u64m := Int.emod_lt_of_pos _ hu
  have h12 : a * b / u64m * u64m + a * b % u64m = a * b := by have := Int.mul_ediv_add_emod (a * b) u64m; rw [Int.mul_comm] at this; exact this
  have e2 : decide (y ≤ a * b / u64m) = false := decide_eq_false (by omega)
  refine ⟨by rw [nt27]; simp, fun C hN Q hQ => ?_⟩
  rw [nt27] at hN
  unfold c27
  refine aw_seq (aw_region (EF := EF0) hG (by rw [hN]; exact tr27_0) ?_)
  simp only [a27_0, go_sem, simprocAttr]
  refine aw_seq (aw_region (EF := EF0) hG (by rw [hN]; exact tr27_1) ?_)
  simp only [a27_1, go_sem, simprocAttr, tScale, gMul, h1, h2, h3, h4]
  refine aw_seq ?_
  refine aw_seq (aw_region (EF := EF0) hG (by rw [hN]; exact tr27_2) ?_)
  simp only [a27_2, go_sem, simprocAttr, e2]
  refine aw_condF rfl ?_
  refine aw_skip ?_
  try simp only [go_sem, simprocAttr]
  refine aw_seq (aw_region (EF := EF0) hG (by rw [hN]; exact tr27_4) ?_)
  simp only [a27_4, go_sem, simprocAttr, tScale, gDiv, h6, h8, h9, h10, h11, h12]
  refine aw_seq (aw_region (EF := EF0) hG (by rw [hN]; exact tr27_5) ?_)
  simp only [a27_5, go_sem, simprocAttr]
  refine aw_ret ?_
  show Q _ _
  refine hQ _ _ (.inl rfl) ?_ ?_ ?_ <;> simp only [outφ, outV, AR.res, go_sem, simprocAttr, gScale]
theorem fits_iff (n : Int) : fitB n = true ↔ -1099511627776 ≤ n ∧ n ≤ 1099511627776 := by unfold fitB; simp
end Go.Proofs.YtfjgnfgadkajnaaGreat
