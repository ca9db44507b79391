/- The division of two words by one. -/
import Derived.Test.YtdjeodopibaebaaDoorMo1
import Derived.Test.YtdjeodopibaebaaDoorShelf
namespace Go.Proofs.YtdjeodopibaebaaDoor
open Go Go.RowKit
set_option linter.unusedSimpArgs false
set_option linter.unusedVariables false
set_option linter.deprecated false
def u64m : Int := 18446744073709551616
theorem wu_eq (n : Int) : wu n = n % 18446744073709551616 := by
  unfold wu IntKind.wrap
  simp [IntKind.bits, IntKind.signed]
/-! One digit of the quotient. -/
section
variable {U d a b Y q h : Int}
theorem mulY (hY : Y = a * 4294967296 + b) : q * Y = q * a * 4294967296 + q * b := by subst hY; grind
theorem dig_lt (hU : U < Y) (hd : d < 4294967296) (hY0 : 0 < Y) : (U * 4294967296 + d) / Y < 4294967296 :=
  (Int.ediv_lt_iff_lt_mul hY0).2 (by omega)
theorem dig_ge (hU : 0 ≤ U) (hd : 0 ≤ d) (hY0 : 0 < Y) : 0 ≤ (U * 4294967296 + d) / Y := Int.ediv_nonneg (by omega) (by omega)
/-- The estimate is not too small. -/
theorem dig_first (hY : Y = a * 4294967296 + b) (ha : 0 < a) (hb : 0 ≤ b) (hU : 0 ≤ U) (hd : d < 4294967296) : (U * 4294967296 + d) / Y ≤ U / a := by
  have hY0 : 0 < Y := by omega
  have h2 : U < (U / a + 1) * a := Int.lt_ediv_add_one_mul_self U ha
  have h0 : 0 ≤ U / a := Int.ediv_nonneg hU (by omega)
  refine Int.lt_add_one_iff.1 ((Int.ediv_lt_iff_lt_mul hY0).2 ?_)
  have h3 := mulY (q := U / a + 1) hY
  have h4 : 0 ≤ (U / a + 1) * b := Int.mul_nonneg (by omega) hb
  omega
theorem dig_keep (hY : Y = a * 4294967296 + b) (hY0 : 0 < Y) (hI : q * a + h = U) (hU : U < Y) (hd : d < 4294967296) (hQ : (U * 4294967296 + d) / Y ≤ q) (hc : 4294967296 ≤ q ∨ 4294967296 * h + d < q * b) : (U * 4294967296 + d) / Y ≤ q - 1 := by
  rcases hc with hc | hc
  · have := dig_lt hU hd hY0; omega
  · have h3 := mulY (q := q) hY
    have : (U * 4294967296 + d) / Y < q := (Int.ediv_lt_iff_lt_mul hY0).2 (by omega)
    omega
theorem dig_done (hY : Y = a * 4294967296 + b) (hY0 : 0 < Y) (hI : q * a + h = U) (hQ : (U * 4294967296 + d) / Y ≤ q) (hc : q * b ≤ 4294967296 * h + d) : q = (U * 4294967296 + d) / Y := by
  have h3 := mulY (q := q) hY
  have := (Int.le_ediv_iff_mul_le hY0 (a := q) (b := U * 4294967296 + d)).2 (by omega)
  omega
theorem dig_break (hY : Y = a * 4294967296 + b) (hY0 : 0 < Y) (ha : 0 < a) (hb : 0 ≤ b) (hb2 : b < 4294967296) (hI : q * a + h = U) (hU0 : 0 ≤ U) (hU : U < Y) (hd : 0 ≤ d) (hQ : (U * 4294967296 + d) / Y ≤ q) (hh : 4294967296 ≤ h) : q = (U * 4294967296 + d) / Y := by
  have q0 : 0 ≤ q := Int.le_trans (dig_ge hU0 hd hY0) hQ
  have q1 : q < 4294967296 := by
    refine Int.lt_of_mul_lt_mul_right (a := a) ?_ (by omega)
    omega
  have h4 : q * b ≤ 4294967296 * b := Int.mul_le_mul_of_nonneg_right (by omega) hb
  exact dig_done hY hY0 hI hQ (by omega)
theorem dig_rem (hY0 : 0 < Y) (hq : q = (U * 4294967296 + d) / Y) : (U * 4294967296 + d) - q * Y = (U * 4294967296 + d) % Y ∧ 0 ≤ (U * 4294967296 + d) % Y ∧ (U * 4294967296 + d) % Y < Y := by
  refine ⟨?_, Int.emod_nonneg _ (by omega), Int.emod_lt_of_pos _ hY0⟩
  have := Int.mul_ediv_add_emod (U * 4294967296 + d) Y
  subst hq
  rw [Int.mul_comm] at this
  omega
theorem wu_rem {r : Int} (h : U * 4294967296 + d - q * Y = r) (h0 : 0 ≤ r) (h1 : r < 18446744073709551616) : wu (wu (wu (U * 4294967296) + d) - wu (q * Y)) = r := by
  generalize q * Y = m at *
  simp only [wu_eq]
  omega
end
/-- The quotient and the rest, put together. -/
theorem div_join {N y p Y Q r2 : Int} (hp : 0 < p) (hy : 0 < y) (hY : Y = y * p) (h : N * p = Q * Y + r2) (h0 : 0 ≤ r2) (h1 : r2 < Y) : Q = N / y ∧ r2 / p = N % y := by
  have e : r2 = (N - Q * y) * p := by subst hY; grind
  have g0 : 0 ≤ N - Q * y := by
    by_cases c : N - Q * y < 0
    · have : (N - Q * y) * p < 0 := Int.mul_neg_of_neg_of_pos c hp
      omega
    · omega
  have g1 : N - Q * y < y := by
    refine Int.lt_of_mul_lt_mul_right (a := p) ?_ (by omega)
    rw [← e, ← hY]; exact h1
  have hQ : Q = N / y := by
    have := Int.mul_ediv_add_emod N y
    have a1 := Int.emod_nonneg N (show y ≠ 0 by omega)
    have a2 := Int.emod_lt_of_pos N hy
    have l1 : Q ≤ N / y := (Int.le_ediv_iff_mul_le hy).2 (by omega)
    have l2 : N / y < Q + 1 := (Int.ediv_lt_iff_lt_mul hy).2 (by rw [Int.add_mul, Int.one_mul]; omega)
    omega
  refine ⟨hQ, ?_⟩
  rw [e, Int.mul_ediv_cancel _ (by omega)]
  have := Int.mul_ediv_add_emod N y
  rw [← hQ, Int.mul_comm] at this
  omega
end Go.Proofs.YtdjeodopibaebaaDoor
