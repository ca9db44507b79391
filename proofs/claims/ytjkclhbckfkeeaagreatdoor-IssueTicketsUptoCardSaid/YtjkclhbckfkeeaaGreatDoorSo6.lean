import Derived.Test.YtjkclhbckfkeeaaGreatDoorMo1
import Derived.Test.YtjkclhbckfkeeaaGreatDoorT1
import Derived.Test.YtjkclhbckfkeeaaGreatDoorPl4
import Derived.Shelf.GgSortMore.Stable
set_option linter.unusedSimpArgs false
set_option linter.unusedVariables false
set_option linter.deprecated false
set_option maxHeartbeats 4000000
noncomputable section
namespace Go.Proofs.YtjkclhbckfkeeaaGreatDoor
open Go Go.RowKit
def Dd : Int := 18446744073709551616
theorem LC (n : Int) : wu n = n % 18446744073709551616 := by
 unfold wu IntKind.wrap
 simp [IntKind.bits, IntKind.signed]
section
variable {U d a b Y q h : Int}
theorem AhT (hY : Y = a * 4294967296 + b) : q * Y = q * a * 4294967296 + q * b := by subst hY; grind
theorem SJ (hU : U < Y) (hd : d < 4294967296) (hY0 : 0 < Y) : (U * 4294967296 + d) / Y < 4294967296 :=
 (Int.ediv_lt_iff_lt_mul hY0).2 (by omega)
theorem FN (hU : 0 ≤ U) (hd : 0 ≤ d) (hY0 : 0 < Y) : 0 ≤ (U * 4294967296 + d) / Y := Int.ediv_nonneg (by omega) (by omega)
theorem SK (hY : Y = a * 4294967296 + b) (ha : 0 < a) (hb : 0 ≤ b) (hU : 0 ≤ U) (hd : d < 4294967296) : (U * 4294967296 + d) / Y ≤ U / a := by
 have hY0 : 0 < Y := by omega
 have h2 : U < (U / a + 1) * a := Int.lt_ediv_add_one_mul_self U ha
 have h0 : 0 ≤ U / a := Int.ediv_nonneg hU (by omega)
 refine Int.lt_add_one_iff.1 ((Int.ediv_lt_iff_lt_mul hY0).2 ?_)
 have h3 := AhT (q := U / a + 1) hY
 have h4 : 0 ≤ (U / a + 1) * b := Int.mul_nonneg (by omega) hb
 omega
theorem GV (hY : Y = a * 4294967296 + b) (hY0 : 0 < Y) (hI : q * a + h = U) (hU : U < Y) (hd : d < 4294967296) (hQ : (U * 4294967296 + d) / Y ≤ q) (hc : 4294967296 ≤ q ∨ 4294967296 * h + d < q * b) : (U * 4294967296 + d) / Y ≤ q - 1 := by
 rcases hc with hc | hc
 ·have := SJ hU hd hY0; omega
 ·have h3 := AhT (q := q) hY
  have : (U * 4294967296 + d) / Y < q := (Int.ediv_lt_iff_lt_mul hY0).2 (by omega)
  omega
theorem JF (hY : Y = a * 4294967296 + b) (hY0 : 0 < Y) (hI : q * a + h = U) (hQ : (U * 4294967296 + d) / Y ≤ q) (hc : q * b ≤ 4294967296 * h + d) : q = (U * 4294967296 + d) / Y := by
 have h3 := AhT (q := q) hY
 have := (Int.le_ediv_iff_mul_le hY0 (a := q) (b := U * 4294967296 + d)).2 (by omega)
 omega
theorem FO (hY : Y = a * 4294967296 + b) (hY0 : 0 < Y) (ha : 0 < a) (hb : 0 ≤ b) (hb2 : b < 4294967296) (hI : q * a + h = U) (hU0 : 0 ≤ U) (hU : U < Y) (hd : 0 ≤ d) (hQ : (U * 4294967296 + d) / Y ≤ q) (hh : 4294967296 ≤ h) : q = (U * 4294967296 + d) / Y := by
 have q0 : 0 ≤ q := Int.le_trans (FN hU0 hd hY0) hQ
 have q1 : q < 4294967296 := by
  refine Int.lt_of_mul_lt_mul_right (a := a) ?_ (by omega)
  omega
 have h4 : q * b ≤ 4294967296 * b := Int.mul_le_mul_of_nonneg_right (by omega) hb
 exact JF hY hY0 hI hQ (by omega)
theorem SI (hY0 : 0 < Y) (hq : q = (U * 4294967296 + d) / Y) : (U * 4294967296 + d) - q * Y = (U * 4294967296 + d) % Y ∧ 0 ≤ (U * 4294967296 + d) % Y ∧ (U * 4294967296 + d) % Y < Y := by
 refine ⟨?_, Int.emod_nonneg _ (by omega), Int.emod_lt_of_pos _ hY0⟩
 have := Int.mul_ediv_add_emod (U * 4294967296 + d) Y
 subst hq
 rw [Int.mul_comm] at this
 omega
theorem Xk {r : Int} (h : U * 4294967296 + d - q * Y = r) (h0 : 0 ≤ r) (h1 : r < 18446744073709551616) : wu (wu (wu (U * 4294967296) + d) - wu (q * Y)) = r := by
 generalize q * Y = m at *
 simp only [LC]
 omega
end
theorem WG {N y p Y Q r2 : Int} (hp : 0 < p) (hy : 0 < y) (hY : Y = y * p) (h : N * p = Q * Y + r2) (h0 : 0 ≤ r2) (h1 : r2 < Y) : Q = N / y ∧ r2 / p = N % y := by
 have e : r2 = (N - Q * y) * p := by subst hY; grind
 have g0 : 0 ≤ N - Q * y := by
  by_cases c : N - Q * y < 0
  ·have : (N - Q * y) * p < 0 := Int.mul_neg_of_neg_of_pos c hp
   omega
  ·omega
 have g1 : N - Q * y < y := by
  refine Int.lt_of_mul_lt_mul_right (a := p) ?_ (by omega)
  rw [← e, ← hY]; exact h1
 have hQ : Q = N / y := by
  have := Int.mul_ediv_add_emod N y
  have a1 := Int.emod_nonneg N (show y ≠ 0 by omega)
  have a2 := Int.emod_lt_of_pos N hy
  have l1 : Q ≤ N / y := (Int.le_ediv_iff_mul_le hy).2 (by omega)
  have l2 : N / y < Q + 1 := (Int.ediv_lt_iff_lt_mul hy).2 (by rw [Int.add_mul, Int.one_mul]; omega)
  omega
 refine ⟨hQ, ?_⟩
 rw [e, Int.mul_ediv_cancel _ (by omega)]
 have := Int.mul_ediv_add_emod N y
 rw [← hQ, Int.mul_comm] at this
 omega
def Ah8 : List V → Prop × V
 | [.int .u64 x, .int .u64 y] => (0 ≤ x ∧ x < Dd ∧ 0 ≤ y ∧ y < Dd, .tup [.int .u64 (x * y / Dd), .int .u64 (x * y % Dd)])
 | _ => (False, .any)
theorem AaM : PU 183 Ah8 := by
 refine Ao.leaf Tryz.func183 (by kernel_rfl : Tryz.f183.body = some ((Tryz.f183.body).getD .skip)) (by kernel_rfl) fun vs M w cargs hv hB hs ha => ?_
 match vs, hv, hs, ha with
 | [.int .u64 x, .int .u64 y], hv, hs, ha =>
 have h0 := (ha 0 _ rfl).int_inv
 have h2 := (ha 1 _ rfl).int_inv
 have h1 := GY hs
 rw [h0, h2] at h1
 rw [h1]
 obtain ⟨h3, h4, h5, h6⟩ : 0 ≤ x ∧ x < Dd ∧ 0 ≤ y ∧ y < Dd := hv
 unfold Dd at h4 h6
 obtain ⟨x, rfl⟩ := Int.eq_ofNat_of_zero_le h3
 obtain ⟨y, rfl⟩ := Int.eq_ofNat_of_zero_le h5
 refine (Tryz.bits_Mul64 x y (by omega) (by omega) w).mono ?_
 rintro e w' ⟨he, rfl⟩
 refine ⟨_, he, fun M' => ?_, Below.refl _ _⟩
 refine .tup _ _ rfl fun i v hi => ?_
 match i, hi with
 | 0, hi =>
  obtain rfl : V.int .u64 ((x : Int) * (y : Int) / Dd) = v := by simpa using hi
  rw [show (x : Int) * (y : Int) / Dd = ((x * y / 18446744073709551616 : Nat) : Int) by unfold Dd; rw [Int.natCast_ediv, Int.natCast_mul]; rfl]
  exact .int _ _
 | 1, hi =>
  obtain rfl : V.int .u64 ((x : Int) * (y : Int) % Dd) = v := by simpa using hi
  rw [show (x : Int) * (y : Int) % Dd = ((x * y % 18446744073709551616 : Nat) : Int) by unfold Dd; rw [Int.natCast_emod, Int.natCast_mul]; rfl]
  exact .int _ _
def gLz : List V → Prop × V
 | [.int .u64 x] => (0 ≤ x ∧ x ≤ 18446744073709551615, .int .i64 (64 - (Lib.bitLen x.toNat : Int)))
 | _ => (False, .any)
theorem Aks : PU 214 gLz := by
 refine Ao.leaf Tryz.func214 (by kernel_rfl : Tryz.f214.body = some ((Tryz.f214.body).getD .skip)) (by kernel_rfl) fun vs M w cargs hv hB hs ha => ?_
 match vs, hv, hs, ha with
 | [.int .u64 x], hv, hs, ha =>
 have h0 := (ha 0 _ rfl).int_inv
 have h1 := JI hs
 rw [h0] at h1
 rw [h1]
 refine (Tryz.bits_LeadingZeros64 x w hv.1 hv.2).mono ?_
 rintro e w' ⟨he, rfl⟩
 exact ⟨_, he, fun M' => .int _ _, Below.refl _ _⟩
theorem Ox {x : Int} (h0 : 0 ≤ x) (h1 : x < 18446744073709551616) : bits .and .u64 x 4294967295 = x % 4294967296 := by
 obtain ⟨n, rfl⟩ := Int.eq_ofNat_of_zero_le h0
 have := bits_and_u64_nat n 4294967295 (by omega) (by omega)
 rw [show ((4294967295 : Nat) : Int) = 4294967295 from rfl] at this
 rw [this, show (4294967295 : Nat) = 2 ^ 32 - 1 from rfl, Nat.and_two_pow_sub_one_eq_mod]
 omega
theorem AdB {m c : Int} {s : Nat} (h0 : 0 ≤ m) (hc : 0 ≤ c) (hc2 : c < 2 ^ s) (hb : m * 2 ^ s + c < 18446744073709551616) : bits .or .u64 (m * 2 ^ s) c = m * 2 ^ s + c := by
 obtain ⟨m, rfl⟩ := Int.eq_ofNat_of_zero_le h0
 obtain ⟨c, rfl⟩ := Int.eq_ofNat_of_zero_le hc
 have e : ((m : Int) * 2 ^ s) = ((m * 2 ^ s : Nat) : Int) := by rw [Int.natCast_mul, Int.natCast_pow]; rfl
 have hc3 : c < 2 ^ s := by
  have : ((c : Nat) : Int) < ((2 ^ s : Nat) : Int) := by rw [Int.natCast_pow]; exact hc2
  omega
 rw [e] at hb ⊢
 rw [bits_or_u64_nat _ _ (by omega) (by omega), Nat.mul_comm m, ← Nat.two_pow_add_eq_or_of_lt hc3]
 omega
theorem est {U d a b Y : Int} (hY : Y = a * 4294967296 + b) (ha : 0 < a) (hb : 0 ≤ b) (hU : 0 ≤ U) (hd : d < 4294967296) : ∃ q h : Int, U / a = q ∧ 0 ≤ q ∧ U - q * a = h ∧ q * a + h = U ∧ (U * 4294967296 + d) / Y ≤ q ∧ 0 ≤ h ∧ h < a ∧ q ≤ U ∧ 0 ≤ q * a := by
 have h1 := Int.ediv_nonneg hU (Int.le_of_lt ha)
 have h2 : U / a * a ≤ U := Int.ediv_mul_le U (by omega)
 have h3 : U < (U / a + 1) * a := Int.lt_ediv_add_one_mul_self U ha
 rw [Int.add_mul, Int.one_mul] at h3
 have h4 := SK hY ha hb hU hd
 have h5 := Int.ediv_le_self a hU
 have h6 : 0 ≤ U / a * a := Int.mul_nonneg h1 (Int.le_of_lt ha)
 refine ⟨U / a, U - U / a * a, rfl, h1, rfl, ?_, h4, ?_, ?_, h5, h6⟩ <;> (clear h4 h5 h1; generalize U / a * a = m at *; omega)
def Ad9 : List V → Prop × V
 | [.int .u64 hi, .int .u64 lo, .int .u64 y] => (0 ≤ hi ∧ hi < y ∧ 0 ≤ lo ∧ lo < Dd ∧ y < Dd, .tup [.int .u64 ((hi * Dd + lo) / y), .int .u64 ((hi * Dd + lo) % y)])
 | _ => (False, .any)
theorem Adp (s : Nat) (h : s ≤ 63) : (2 : Int) ^ s * 2 ^ (64 - s) = 18446744073709551616 := by
 rw [← Int.pow_add, show s + (64 - s) = 64 by omega]; rfl
theorem Abp : ∀ x : Nat, x ≠ 0 → x < 2 ^ 64 → x < 2 ^ Lib.bitLen x ∧ 2 ^ (Lib.bitLen x - 1) ≤ x ∧ 1 ≤ Lib.bitLen x := fun x => by
 induction x using Nat.strongRecOn with
 | ind x ih =>
  intro h0 h
  rw [Lib.bitLen_half x h0 h]
  by_cases h1 : x / 2 = 0
  ·rw [h1, show Lib.bitLen 0 = 0 from rfl]
   simp; omega
  ·obtain ⟨a1, a2, a3⟩ := ih (x / 2) (by omega) h1 (by omega)
   obtain ⟨k, hk⟩ : ∃ k, Lib.bitLen (x / 2) = k + 1 := ⟨Lib.bitLen (x / 2) - 1, by omega⟩
   rw [hk] at a1 a2 ⊢
   rw [show k + 1 - 1 = k by omega] at a2
   refine ⟨?_, ?_, by omega⟩
   ·rw [Nat.add_comm, Nat.pow_succ]; omega
   ·rw [show 1 + (k + 1) - 1 = k + 1 by omega, Nat.pow_succ]; omega
theorem SF {y : Int} (h0 : 0 < y) (h1 : y < Dd) : ∃ s : Nat, s ≤ 63 ∧ 64 - (Lib.bitLen y.toNat : Int) = s ∧ 9223372036854775808 ≤ y * 2 ^ s ∧ y * 2 ^ s < 18446744073709551616 := by
 obtain ⟨n, rfl⟩ := Int.eq_ofNat_of_zero_le (Int.le_of_lt h0)
 unfold Dd at h1
 have hn : n ≠ 0 := by omega
 obtain ⟨b1, b3, _⟩ := Abp n hn (by omega)
 have hL : Lib.bitLen n ≤ 64 := Lib.bitLen_le n 64 (by omega) (by omega)
 have hL0 : Lib.bitLen n ≠ 0 := fun e => by rw [e] at b1; simp at b1; omega
 refine ⟨64 - Lib.bitLen n, by omega, by rw [Int.toNat_natCast]; omega, ?_, ?_⟩
 ·have : 2 ^ (Lib.bitLen n - 1) * 2 ^ (64 - Lib.bitLen n) ≤ n * 2 ^ (64 - Lib.bitLen n) := Nat.mul_le_mul_right _ b3
  rw [← Nat.pow_add, show Lib.bitLen n - 1 + (64 - Lib.bitLen n) = 63 by omega] at this
  have e : ((n : Int) * 2 ^ (64 - Lib.bitLen n)) = ((n * 2 ^ (64 - Lib.bitLen n) : Nat) : Int) := by rw [Int.natCast_mul, Int.natCast_pow]; rfl
  rw [e]
  omega
 ·have : n * 2 ^ (64 - Lib.bitLen n) < 2 ^ Lib.bitLen n * 2 ^ (64 - Lib.bitLen n) := Nat.mul_lt_mul_of_pos_right b1 (Nat.two_pow_pos _)
  rw [← Nat.pow_add, show Lib.bitLen n + (64 - Lib.bitLen n) = 64 by omega] at this
  have e : ((n : Int) * 2 ^ (64 - Lib.bitLen n)) = ((n * 2 ^ (64 - Lib.bitLen n) : Nat) : Int) := by rw [Int.natCast_mul, Int.natCast_pow]; rfl
  rw [e]
  omega
def Agz : Tab
 | 214 => gLz
 | _ => gNo
theorem Zv : ∀ f, PU f (Agz f) := fun f => by
 unfold Agz
 split
 ·exact Aks
 ·exact Ao.no
theorem Abb : PU 184 Ad9 := by
 have hG := Zv
 refine Aex.q fun vs hv => ?_
 match vs, hv with
 | [.int .u64 hi, .int .u64 lo, .int .u64 y], hv =>
 obtain ⟨g0, g1, g2, g3, g4⟩ : 0 ≤ hi ∧ hi < y ∧ 0 ≤ lo ∧ lo < Dd ∧ y < Dd := hv
 have e1 : decide (y = 0) = false := decide_eq_false (by omega)
 have e2 : decide (y ≤ hi) = false := decide_eq_false (by omega)
 obtain ⟨s, s1, s2, s3, s4⟩ := SF (show 0 < y by omega) g4
 unfold Dd at g3 g4
 have hpp := Adp s s1
 have hp0 : (0 : Int) < 2 ^ s := Int.pow_pos (by decide)
 have hr0 : (0 : Int) < 2 ^ (64 - s) := Int.pow_pos (by decide)
 have s5 : ((s : Int)).toNat = s := Int.toNat_natCast s
 have s6 : (64 - (s : Int)).toNat = 64 - s := by omega
 have hku : inK .u64 (s : Int) := Ak.2 (by omega)
 refine ⟨by simp, fun C hN Q hQ => ?_⟩
 have ZR := Aex.D EF0 hG hN mixed
 have Z := Aex.R EF0 hG hN
 refine Aa (Z 0 rfl ?_)
 simp only [go_sem, simprocAttr]
 refine Aa (Aa (Z 1 rfl ?_))
 simp only [go_sem, simprocAttr, e1]
 refine Be rfl ?_
 refine Ac ?_
 refine Aa (Aa (Z 3 rfl ?_))
 simp only [go_sem, simprocAttr, e2]
 refine Be rfl ?_
 refine Ac ?_
 refine Aa (Aa (Z 5 rfl ?_))
 simp only [go_sem, simprocAttr]
 refine Ab rfl (fun hc5 => ?_) fun hc5 => ?_
 ·simp only [hcL] at hc5
  have hz : hi = 0 := by simpa using hc5
  have hq : inK .u64 (lo / y) := Ak.2 ⟨Int.ediv_nonneg g2 (by omega), by have := Int.ediv_le_self y g2; omega⟩
  subst hz
  refine Aa (ZR 6 rfl (by kernel_rfl) ?_)
  simp only [go_sem, simprocAttr, hq, g2, (show (0 : Int) < y from g1)]
  refine Ae (hQ _ _ (.inl rfl) ?_ ?_ ?_) <;> simp only [go_sem, simprocAttr, Ad9, Int.zero_mul, Int.zero_add]
 simp only [hcL] at hc5
 refine Ac ?_
 refine Aa (Z 7 rfl ?_)
 simp only [go_sem, simprocAttr, Agz, gLz, s2, hku]
 and_intros <;> (try first | exact sdA | skip)
 obtain ⟨Y, hY⟩ : ∃ Y, Y = y * 2 ^ s := ⟨_, rfl⟩
 rw [← hY] at s3 s4
 have hY1 : wu (y * 2 ^ s) = Y := by rw [LC, ← hY]; omega
 have hs64 : (0 : Int) ≤ (s : Int) ∧ (s : Int) ≤ 64 := by omega
 have hs65 : (0 : Int) ≤ 64 - (s : Int) ∧ 64 - (s : Int) ≤ 64 := by omega
 refine Aa (Z 8 rfl ?_)
 simp only [go_sem, simprocAttr, s5, hs64, hY1]
 obtain ⟨a, ha⟩ : ∃ a, a = Y / 4294967296 := ⟨_, rfl⟩
 obtain ⟨b, hb⟩ : ∃ b, b = Y % 4294967296 := ⟨_, rfl⟩
 have hYab : Y = a * 4294967296 + b := by omega
 have hb' : bits .and .u64 Y 4294967295 = b := by rw [Ox (by omega) s4, hb]
 refine Aa (Z 9 rfl ?_)
 simp only [go_sem, simprocAttr, ← ha]
 and_intros <;> try exact sdA
 refine Aa (Z 10 rfl ?_)
 simp only [go_sem, simprocAttr, hb']
 obtain ⟨U, hU⟩ : ∃ U, U = hi * 2 ^ s + lo / 2 ^ (64 - s) := ⟨_, rfl⟩
 have hlo0 : 0 ≤ lo / 2 ^ (64 - s) := Int.ediv_nonneg g2 (by omega)
 have hlo1 : lo / 2 ^ (64 - s) < 2 ^ s := (Int.ediv_lt_iff_lt_mul hr0).2 (by rw [hpp]; exact g3)
 have hhi : hi * 2 ^ s + 2 ^ s ≤ Y := by have : (hi + 1) * 2 ^ s ≤ y * 2 ^ s := Int.mul_le_mul_of_nonneg_right (by omega) (by omega); rw [Int.add_mul, Int.one_mul] at this; omega
 have hhi0 : 0 ≤ hi * 2 ^ s := Int.mul_nonneg g0 (by omega)
 have hw1 : wu (hi * 2 ^ s) = hi * 2 ^ s := by rw [LC]; omega
 have hor : bits .or .u64 (hi * 2 ^ s) (lo / 2 ^ (64 - s)) = U := by rw [AdB g0 hlo0 hlo1 (by omega), hU]
 have hUY : U < Y := by omega
 have hU0 : 0 ≤ U := by omega
 have hk64 : inK .u64 (64 - (s : Int)) := Ak.2 (by omega)
 refine Aa (Z 11 rfl ?_)
 simp only [go_sem, simprocAttr, inI, s5, s6, hs64, hs65, hw1, hor, hk64]
 obtain ⟨E, hE⟩ : ∃ E, E = lo * 2 ^ s % 18446744073709551616 := ⟨_, rfl⟩
 have hw2 : wu (lo * 2 ^ s) = E := by rw [LC, hE]
 have hNU : (hi * 18446744073709551616 + lo) * 2 ^ s = U * 18446744073709551616 + E := by have e1 : lo / 2 ^ (64 - s) = lo * 2 ^ s / 18446744073709551616 := (by rw [← hpp, Int.mul_comm (2 ^ s), Int.mul_ediv_mul_of_pos_left _ _ hp0]); rw [e1] at hU; have e2 : (hi * 18446744073709551616 + lo) * 2 ^ s = hi * 2 ^ s * 18446744073709551616 + lo * 2 ^ s := (by grind); omega
 refine Aa (Z 12 rfl ?_)
 simp only [go_sem, simprocAttr, s5, hs64, hw2]
 obtain ⟨d1, hd1⟩ : ∃ d, d = E / 4294967296 := ⟨_, rfl⟩
 obtain ⟨d0, hd0⟩ : ∃ d, d = E % 4294967296 := ⟨_, rfl⟩
 have hE0 : 0 ≤ E ∧ E < 18446744073709551616 := by omega
 have hd0' : bits .and .u64 E 4294967295 = d0 := by rw [Ox hE0.1 hE0.2, hd0]
 have hY0 : 0 < Y := by omega
 have ha0 : 0 < a := by omega
 have hb0 : 0 ≤ b := by omega
 have hb1 : b < 4294967296 := by omega
 have hd10 : 0 ≤ d1 := by omega
 have hd11 : d1 < 4294967296 := by omega
 have hd00 : 0 ≤ d0 := by omega
 have hd01 : d0 < 4294967296 := by omega
 have ha1 : a < 4294967296 := by omega
 obtain ⟨q0, h0, hq0, j1, j2, j3, j4, j5, j6, j7, j8⟩ := est (U := U) (d := d1) hYab ha0 hb0 hU0 hd11
 have hk1 : inK .u64 q0 := Ak.2 (by omega)
 have hk2 : inK .u64 (q0 * a) := Ak.2 (by omega)
 have hk3 : inK .u64 h0 := Ak.2 (by omega)
 refine Aa (Z 13 rfl ?_)
 simp only [go_sem, simprocAttr, ← hd1]
 and_intros <;> try exact sdA
 refine Aa (Z 14 rfl ?_)
 simp only [go_sem, simprocAttr, hd0']
 refine Aa (Z 15 rfl ?_)
 simp only [go_sem, simprocAttr, hq0, hk1, hU0, ha0]
 refine Aa (Z 16 rfl ?_)
 simp only [go_sem, simprocAttr, inI, hk2, hk3, j2]
 refine BD (α := Unit) (fun u => (True)) (fun u => ⟨mkE [(2, V.int IntKind.u64 Y), (8, V.int IntKind.u64 ↑s), (9, V.int IntKind.u64 a), (10, V.int IntKind.u64 b), (11, V.int IntKind.u64 U), (13, V.int IntKind.u64 d1), (14, V.int IntKind.u64 d0), (15, .int .u64 ((U * 4294967296 + d1) / Y))], mkH []⟩) ?_ ?_
 ·intro KCb0 hKCb0
  refine Ad ?_
  refine Aj (α := Int × Int) (fun γ => (γ.1 * a + γ.2 = U) ∧ ((U * 4294967296 + d1) / Y ≤ γ.1) ∧ (0 ≤ γ.2) ∧ (γ.2 < 4294967296)) (fun γ => ⟨mkE [(2, V.int IntKind.u64 Y), (8, V.int IntKind.u64 ↑s), (9, V.int IntKind.u64 a), (10, V.int IntKind.u64 b), (11, V.int IntKind.u64 U), (13, V.int IntKind.u64 d1), (14, V.int IntKind.u64 d0), (15, .int .u64 γ.1), (16, .int .u64 γ.2)], mkH []⟩) (fun γ => γ.1.toNat) (q0, h0) ⟨j3, j4, j5, Int.lt_trans j6 ha1⟩ ?_ ?_
  ·exact leM
  rintro ⟨q, h⟩ ⟨i1, i2, i3, i4⟩ KL0 hKL0
  try dsimp only at *
  have qq0 : 0 ≤ q := Int.le_trans (FN hU0 hd10 hY0) i2
  have qa0 : 0 ≤ q * a := Int.mul_nonneg qq0 (by omega)
  have qle : q ≤ q * a := by have : q * 1 ≤ q * a := Int.mul_le_mul_of_nonneg_left (by omega) qq0; omega
  refine Aa ?_
  by_cases hq : 4294967296 ≤ q
  ·refine Aa (Z 17 rfl ?_)
   simp only [go_sem, simprocAttr, inI, hq, decide_true]
   refine FQ rfl ?_
   refine Ac ?_
   refine Ad ?_
   have hkeep := GV hYab hY0 i1 hUY hd11 i2 (by omega)
   have hg0 := FN hU0 hd10 hY0
   have hk4 : inK .u64 (q - 1) := Ak.2 (by omega)
   have hk5 : inK .u64 (h + a) := Ak.2 (by omega)
   have hI2 : (q - 1) * a + (h + a) = U := by rw [Int.sub_mul, Int.one_mul]; omega
   refine Aa (Z 18 rfl ?_)
   simp only [go_sem, simprocAttr, inI, hk4]
   refine Aa (Z 19 rfl ?_)
   simp only [go_sem, simprocAttr, inI, hk5]
   refine Aa (Z 20 rfl ?_)
   simp only [go_sem, simprocAttr]
   refine Ab rfl (fun hc20 => ?_) fun hc20 => ?_
   ·simp only [hcL] at hc20
    have hbr := FO hYab hY0 ha0 hb0 hb1 hI2 hU0 hUY hd10 hkeep hc20
    refine Ai ?_
    simp only [go_sem, simprocAttr]
    refine hKCb0 (()) _ ?_ ?_
    ·(try dsimp only); try trivial
    refine Le.mk _ _ ?_ ?_ rfl <;> simp only [go_sem, simprocAttr, hbr] <;> and_intros <;> try exact leA
   simp only [hcL] at hc20
   refine Ac ?_
   refine hKL0 (q - 1, h + a) _ ?_ ?_ ?_
   ·(try dsimp only); exact ⟨hI2, hkeep, by omega, by omega⟩
   ·(try dsimp only); omega
   exact leM
  have hqb : q * b ≤ 4294967295 * b := Int.mul_le_mul_of_nonneg_right (by omega) hb0
  have hqb0 : 0 ≤ q * b := Int.mul_nonneg qq0 hb0
  have hm1 : inK .u64 (q * b) := Ak.2 (by omega)
  have hm2 : inK .u64 (4294967296 * h) := Ak.2 (by omega)
  have hm3 : inK .u64 (4294967296 * h + d1) := Ak.2 (by omega)
  refine Aa (Z 17 rfl ?_)
  simp only [go_sem, simprocAttr, inI, hq, decide_false, hm1, hm2, hm3]
  refine Ab rfl (fun hb17 => ?_) fun hb17 => ?_
  ·have hb18 : 4294967296 * h + d1 < q * b := by simpa using hb17
   refine Ac ?_
   refine Ad ?_
   have hkeep := GV hYab hY0 i1 hUY hd11 i2 (by omega)
   have hg0 := FN hU0 hd10 hY0
   have hk4 : inK .u64 (q - 1) := Ak.2 (by omega)
   have hk5 : inK .u64 (h + a) := Ak.2 (by omega)
   have hI2 : (q - 1) * a + (h + a) = U := by rw [Int.sub_mul, Int.one_mul]; omega
   refine Aa (Z 18 rfl ?_)
   simp only [go_sem, simprocAttr, inI, hk4]
   refine Aa (Z 19 rfl ?_)
   simp only [go_sem, simprocAttr, inI, hk5]
   refine Aa (Z 20 rfl ?_)
   simp only [go_sem, simprocAttr]
   refine Ab rfl (fun hc20 => ?_) fun hc20 => ?_
   ·simp only [hcL] at hc20
    have hbr := FO hYab hY0 ha0 hb0 hb1 hI2 hU0 hUY hd10 hkeep hc20
    refine Ai ?_
    simp only [go_sem, simprocAttr]
    refine hKCb0 (()) _ ?_ ?_
    ·(try dsimp only); try trivial
    refine Le.mk _ _ ?_ ?_ rfl <;> simp only [go_sem, simprocAttr, hbr] <;> and_intros <;> try exact leA
   simp only [hcL] at hc20
   refine Ac ?_
   refine hKL0 (q - 1, h + a) _ ?_ ?_ ?_
   ·(try dsimp only); exact ⟨hI2, hkeep, by omega, by omega⟩
   ·(try dsimp only); omega
   exact leM
  have hb18 : q * b ≤ 4294967296 * h + d1 := by simpa using hb17
  refine Ai ?_
  simp only [go_sem, simprocAttr]
  refine hKCb0 (()) _ ?_ ?_
  ·(try dsimp only); try trivial
  refine Le.mk _ _ ?_ ?_ rfl <;> simp only [go_sem, simprocAttr, JF hYab hY0 i1 i2 hb18] <;> and_intros <;> try exact leA
 rintro u k0
 obtain ⟨Q1, hQ1⟩ : ∃ Q, Q = (U * 4294967296 + d1) / Y := ⟨_, rfl⟩
 obtain ⟨f1, f2, f3⟩ := SI hY0 hQ1
 have f4 := SJ hUY hd11 hY0
 have f5 := FN hU0 hd10 hY0
 obtain ⟨R, hR⟩ : ∃ R, R = (U * 4294967296 + d1) % Y := ⟨_, rfl⟩
 rw [← hR] at f1 f2 f3
 rw [← hQ1] at f4 f5
 rw [← hQ1]
 have hw3 := Xk f1 f2 (by omega)
 refine Aa (DZ (EF := EF0) hG (by rw [hN]; exact UK) ?_)
 simp only [TV, go_sem, simprocAttr, inI, hw3]
 and_intros <;> try exact sdA
 obtain ⟨q0, h0, hq0, j1, j2, j3, j4, j5, j6, j7, j8⟩ := est (U := R) (d := d0) hYab ha0 hb0 f2 hd01
 have hk1 : inK .u64 q0 := Ak.2 (by omega)
 have hk2 : inK .u64 (q0 * a) := Ak.2 (by omega)
 have hk3 : inK .u64 h0 := Ak.2 (by omega)
 refine Aa (Z 22 rfl ?_)
 simp only [go_sem, simprocAttr, hq0, hk1, f2, ha0]
 refine Aa (Z 23 rfl ?_)
 simp only [go_sem, simprocAttr, inI, hk2, hk3, j2]
 refine BD (α := Unit) (fun u => (True)) (fun u => ⟨mkE [(2, V.int IntKind.u64 Y), (8, V.int IntKind.u64 ↑s), (14, V.int IntKind.u64 d0), (15, V.int IntKind.u64 Q1), (17, V.int IntKind.u64 R), (18, .int .u64 ((R * 4294967296 + d0) / Y))], mkH []⟩) ?_ ?_
 ·intro KCb2 hKCb2
  refine Ad ?_
  refine Aj (α := Int × Int) (fun γ => (γ.1 * a + γ.2 = R) ∧ ((R * 4294967296 + d0) / Y ≤ γ.1) ∧ (0 ≤ γ.2) ∧ (γ.2 < 4294967296)) (fun γ => ⟨mkE [(2, V.int IntKind.u64 Y), (8, V.int IntKind.u64 ↑s), (9, V.int IntKind.u64 a), (10, V.int IntKind.u64 b), (14, V.int IntKind.u64 d0), (15, V.int IntKind.u64 Q1), (16, .int .u64 γ.2), (17, V.int IntKind.u64 R), (18, .int .u64 γ.1)], mkH []⟩) (fun γ => γ.1.toNat) (q0, h0) ⟨j3, j4, j5, Int.lt_trans j6 ha1⟩ ?_ ?_
  ·exact leM
  rintro ⟨q, h⟩ ⟨i1, i2, i3, i4⟩ KL2 hKL2
  try dsimp only at *
  have qq0 : 0 ≤ q := Int.le_trans (FN f2 hd00 hY0) i2
  have qa0 : 0 ≤ q * a := Int.mul_nonneg qq0 (by omega)
  have qle : q ≤ q * a := by have : q * 1 ≤ q * a := Int.mul_le_mul_of_nonneg_left (by omega) qq0; omega
  refine Aa ?_
  by_cases hq : 4294967296 ≤ q
  ·refine Aa (Z 24 rfl ?_)
   simp only [go_sem, simprocAttr, inI, hq, decide_true]
   refine FQ rfl ?_
   refine Ac ?_
   refine Ad ?_
   have hkeep := GV hYab hY0 i1 f3 hd01 i2 (by omega)
   have hg0 := FN f2 hd00 hY0
   have hk4 : inK .u64 (q - 1) := Ak.2 (by omega)
   have hk5 : inK .u64 (h + a) := Ak.2 (by omega)
   have hI2 : (q - 1) * a + (h + a) = R := by rw [Int.sub_mul, Int.one_mul]; omega
   refine Aa (Z 25 rfl ?_)
   simp only [go_sem, simprocAttr, inI, hk4]
   refine Aa (Z 26 rfl ?_)
   simp only [go_sem, simprocAttr, inI, hk5]
   refine Aa (Z 27 rfl ?_)
   simp only [go_sem, simprocAttr]
   refine Ab rfl (fun hc27 => ?_) fun hc27 => ?_
   ·simp only [hcL] at hc27
    have hbr := FO hYab hY0 ha0 hb0 hb1 hI2 f2 f3 hd00 hkeep hc27
    refine Ai ?_
    simp only [go_sem, simprocAttr]
    refine hKCb2 (()) _ ?_ ?_
    ·(try dsimp only); try trivial
    refine Le.mk _ _ ?_ ?_ rfl <;> simp only [go_sem, simprocAttr, hbr] <;> and_intros <;> try exact leA
   simp only [hcL] at hc27
   refine Ac ?_
   refine hKL2 (q - 1, h + a) _ ?_ ?_ ?_
   ·(try dsimp only); exact ⟨hI2, hkeep, by omega, by omega⟩
   ·(try dsimp only); omega
   exact leM
  have hqb : q * b ≤ 4294967295 * b := Int.mul_le_mul_of_nonneg_right (by omega) hb0
  have hqb0 : 0 ≤ q * b := Int.mul_nonneg qq0 hb0
  have hm1 : inK .u64 (q * b) := Ak.2 (by omega)
  have hm2 : inK .u64 (4294967296 * h) := Ak.2 (by omega)
  have hm3 : inK .u64 (4294967296 * h + d0) := Ak.2 (by omega)
  refine Aa (Z 24 rfl ?_)
  simp only [go_sem, simprocAttr, inI, hq, decide_false, hm1, hm2, hm3]
  refine Ab rfl (fun hb17 => ?_) fun hb17 => ?_
  ·have hb18 : 4294967296 * h + d0 < q * b := by simpa using hb17
   refine Ac ?_
   refine Ad ?_
   have hkeep := GV hYab hY0 i1 f3 hd01 i2 (by omega)
   have hg0 := FN f2 hd00 hY0
   have hk4 : inK .u64 (q - 1) := Ak.2 (by omega)
   have hk5 : inK .u64 (h + a) := Ak.2 (by omega)
   have hI2 : (q - 1) * a + (h + a) = R := by rw [Int.sub_mul, Int.one_mul]; omega
   refine Aa (Z 25 rfl ?_)
   simp only [go_sem, simprocAttr, inI, hk4]
   refine Aa (Z 26 rfl ?_)
   simp only [go_sem, simprocAttr, inI, hk5]
   refine Aa (Z 27 rfl ?_)
   simp only [go_sem, simprocAttr]
   refine Ab rfl (fun hc27 => ?_) fun hc27 => ?_
   ·simp only [hcL] at hc27
    have hbr := FO hYab hY0 ha0 hb0 hb1 hI2 f2 f3 hd00 hkeep hc27
    refine Ai ?_
    simp only [go_sem, simprocAttr]
    refine hKCb2 (()) _ ?_ ?_
    ·(try dsimp only); try trivial
    refine Le.mk _ _ ?_ ?_ rfl <;> simp only [go_sem, simprocAttr, hbr] <;> and_intros <;> try exact leA
   simp only [hcL] at hc27
   refine Ac ?_
   refine hKL2 (q - 1, h + a) _ ?_ ?_ ?_
   ·(try dsimp only); exact ⟨hI2, hkeep, by omega, by omega⟩
   ·(try dsimp only); omega
   exact leM
  have hb18 : q * b ≤ 4294967296 * h + d0 := by simpa using hb17
  refine Ai ?_
  simp only [go_sem, simprocAttr]
  refine hKCb2 (()) _ ?_ ?_
  ·(try dsimp only); try trivial
  refine Le.mk _ _ ?_ ?_ rfl <;> simp only [go_sem, simprocAttr, JF hYab hY0 i1 i2 hb18] <;> and_intros <;> try exact leA
 rintro u k0
 obtain ⟨Q0, hQ0⟩ : ∃ Q, Q = (R * 4294967296 + d0) / Y := ⟨_, rfl⟩
 obtain ⟨t1, t2, t3⟩ := SI hY0 hQ0
 have t4 := SJ f3 hd01 hY0
 have t5 := FN f2 hd00 hY0
 obtain ⟨R2, hR2⟩ : ∃ x, x = (R * 4294967296 + d0) % Y := ⟨_, rfl⟩
 rw [← hR2] at t1 t2 t3
 rw [← hQ0] at t4 t5
 rw [← hQ0]
 have hw4 := Xk t1 t2 (by omega)
 have hw5 : wu (wu (Q1 * 4294967296) + Q0) = Q1 * 4294967296 + Q0 := by rw [LC, LC]; omega
 have hfin := WG (N := hi * 18446744073709551616 + lo) (Q := Q1 * 4294967296 + Q0) hp0 (show 0 < y by omega) hY (by rw [hNU, Int.add_mul, show Q1 * 4294967296 * Y = Q1 * Y * 4294967296 by grind]; omega) t2 t3
 refine Aa (DZ (EF := EF0) hG (by rw [hN]; exact UJ) ?_)
 simp only [TU, go_sem, simprocAttr, inI, hw4, hw5, s5, hs64]
 refine Ae (hQ _ _ (.inl rfl) ?_ ?_ ?_) <;> simp only [go_sem, simprocAttr, Ad9]
 unfold Dd; rw [← hfin.1, ← hfin.2]
theorem Vf (n : Int) (hn : inI n) (w : World) :
  Calls Tryz.prog 141 #[.int .i64 n] w fun e w' => e = .returned (.int .u64 (n.natAbs : Int)) ∧ w = w' := by
 obtain ⟨h1, h2⟩ := hn
 go_enter Tryz.func141, Tryz.ntmps141
 go_wp2_with (fail)
 all_goals go_ret
 ·rename_i hs
  refine ⟨?_, rfl⟩
  have : IntKind.u64.wrap (-IntKind.u64.wrap n) = (n.natAbs : Int) := by have := LC; unfold wu at this; rw [this, this]; omega
  exact congrArg (fun x => Ending.returned (Value.int .u64 x)) this
 ·rename_i hs
  refine ⟨?_, rfl⟩
  exact congrArg (fun x => Ending.returned (Value.int .u64 x)) (show n = (n.natAbs : Int) by omega)
def Wl : List V → Prop × V
 | [.int .i64 n] => (inI n, .int .u64 (n.natAbs : Int))
 | _ => (False, .any)
theorem Ac7 : PU 141 Wl := by
 refine Ao.leaf Tryz.func141 (by kernel_rfl : Tryz.f141.body = some ((Tryz.f141.body).getD .skip)) (by kernel_rfl) fun vs M w cargs hv hB hs ha => ?_
 match vs, hv, hs, ha with
 | [.int .i64 n], hv, hs, ha =>
 have h0 := (ha 0 _ rfl).int_inv
 have h1 := JI hs
 rw [h0] at h1
 rw [h1]
 refine (Vf n hv w).mono ?_
 rintro e w' ⟨he, rfl⟩
 exact ⟨_, he, fun M' => .int _ _, Below.refl _ _⟩
def NK : List V → Prop × V
 | [.int .u64 a, .int .u64 b, .int .u64 y] => (0 ≤ a ∧ a < Dd ∧ 0 ≤ b ∧ b < Dd ∧ 0 < y ∧ y < Dd ∧ a * b / Dd < y, .tup [.int .u64 (a * b / y), .int .u64 (a * b % y), .bool true])
 | _ => (False, .any)
def MV : Tab
 | 183 => Ah8
 | 184 => Ad9
 | _ => gNo
theorem Qn : ∀ f, PU f (MV f) := fun f => by
 unfold MV
 split
 ·exact AaM
 ·exact Abb
 ·exact Ao.no
theorem ZY : PU 143 NK := by
 have hG := Qn
 refine AeT.q fun vs hv => ?_
 match vs, hv with
 | [.int .u64 a, .int .u64 b, .int .u64 y], hv =>
 obtain ⟨h1, h2, h3, h4, h5, h6, h10⟩ : 0 ≤ a ∧ a < Dd ∧ 0 ≤ b ∧ b < Dd ∧ 0 < y ∧ y < Dd ∧ a * b / Dd < y := hv
 have hu : (0 : Int) < Dd := by decide
 have h7 : 0 ≤ a * b := Int.mul_nonneg h1 h3
 have h8 : 0 ≤ a * b / Dd := Int.ediv_nonneg h7 (by decide)
 have h9 : 0 ≤ a * b % Dd := Int.emod_nonneg _ (by decide)
 have h11 : a * b % Dd < Dd := Int.emod_lt_of_pos _ hu
 have h12 : a * b / Dd * Dd + a * b % Dd = a * b := by have := Int.mul_ediv_add_emod (a * b) Dd; rw [Int.mul_comm] at this; exact this
 have e2 : decide (y ≤ a * b / Dd) = false := decide_eq_false (by omega)
 refine ⟨by simp, fun C hN Q hQ => ?_⟩
 have Z := AeT.R EF0 hG hN
 refine Aa (Z 0 rfl ?_)
 simp only [go_sem, simprocAttr]
 refine Aa (Z 1 rfl ?_)
 simp only [go_sem, simprocAttr, MV, Ah8, h1, h2, h3, h4]
 refine Aa (Aa (Z 2 rfl ?_))
 simp only [go_sem, simprocAttr, e2]
 refine Be rfl ?_
 refine Ac ?_
 refine Aa (Z 4 rfl ?_)
 simp only [go_sem, simprocAttr, MV, Ad9, h6, h8, h9, h10, h11, h12]
 refine Aa (Z 5 rfl ?_)
 simp only [go_sem, simprocAttr]
 refine Ae (hQ _ _ (.inl rfl) ?_ ?_ ?_) <;> simp only [go_sem, simprocAttr, NK]
theorem NO (n : Int) : NP n = true ↔ -1099511627776 ≤ n ∧ n ≤ 1099511627776 := by unfold NP; simp
def Tb (f : Nat → Int) (x y : Nat) : Prop := f y < f x ∨ (f x = f y ∧ x < y)
instance (f : Nat → Int) (x y : Nat) : Decidable (Tb f x y) := inferInstanceAs (Decidable (_ ∨ _))
theorem Tb.irr {f : Nat → Int} {x : Nat} : ¬ Tb f x x := by unfold Tb; omega
theorem Tb.tr {f : Nat → Int} {x y z : Nat} (h : Tb f x y) (k : Tb f y z) : Tb f x z := by unfold Tb at *; omega
theorem Tb.asym {f : Nat → Int} {x y : Nat} (h : Tb f x y) : ¬ Tb f y x := by unfold Tb at *; omega
theorem Tb.tri {f : Nat → Int} (x y : Nat) : Tb f x y ∨ x = y ∨ Tb f y x := by unfold Tb; omega
theorem Tb.of_lt {f : Nat → Int} {x y : Nat} (h : x < y) : (f x < f y ↔ Tb f y x) ∧ (¬ f x < f y ↔ Tb f x y) := by unfold Tb; omega
def AaW (f : Nat → Int) (x : Nat) : List Nat → List Nat
 | [] => [x]
 | y :: l => if Tb f x y then x :: y :: l else y :: AaW f x l
def msT (f : Nat → Int) : List Nat → List Nat
 | [] => []
 | x :: l => AaW f x (msT f l)
def Bu (f : Nat → Int) (l : List Nat) : Prop := l.Pairwise (Tb f)
section
variable {f : Nat → Int}
theorem KP (x : Nat) (l : List Nat) : (AaW f x l).Perm (x :: l) := by
 induction l with
 | nil => exact .refl _
 | cons y l ih =>
  rw [AaW]
  split
  ·exact .refl _
  ·exact (ih.cons y).trans (.swap x y l)
theorem AP (l : List Nat) : (msT f l).Perm l := by
 induction l with
 | nil => exact .refl _
 | cons x l ih => exact (KP x _).trans (ih.cons x)
theorem Sg {x : Nat} {l : List Nat} (h : Bu f l) (hx : x ∉ l) : Bu f (AaW f x l) := by
 unfold Bu at *
 induction l with
 | nil => exact List.pairwise_singleton _ _
 | cons y l ih =>
  rw [AaW]
  obtain ⟨h1, h2⟩ := List.pairwise_cons.1 h
  have hxy : x ≠ y := fun e => hx (e ▸ List.mem_cons_self ..)
  have hxl : x ∉ l := fun e => hx (List.mem_cons_of_mem _ e)
  split
  ·rename_i c
   refine List.pairwise_cons.2 ⟨fun z hz => ?_, h⟩
   rcases List.mem_cons.1 hz with rfl | hz
   ·exact c
   ·exact c.tr (h1 z hz)
  ·rename_i c
   refine List.pairwise_cons.2 ⟨fun z hz => ?_, ih h2 hxl⟩
   rcases List.mem_cons.1 ((KP x l).mem_iff.1 hz) with rfl | hz
   ·exact ((Tb.tri z y).resolve_left c).resolve_left hxy
   ·exact h1 z hz
theorem Cx {l : List Nat} (h : l.Nodup) : Bu f (msT f l) := by
 induction l with
 | nil => exact List.Pairwise.nil
 | cons x l ih =>
  rw [List.nodup_cons] at h
  exact Sg (ih h.2) (fun hx => h.1 ((AP l).mem_iff.1 hx))
theorem Bu.nodup {l : List Nat} (h : Bu f l) : l.Nodup := List.Pairwise.imp (fun {a b} h e => by subst e; exact Tb.irr h) h
theorem Bu.eq {a b : List Nat} (ha : Bu f a) (hb : Bu f b) (h : a.Perm b) : a = b :=
 List.Perm.eq_of_pairwise (le := Tb f) (fun _ _ _ _ h1 h2 => absurd h2 h1.asym) ha hb h
theorem KD {a l : List Nat} (ha : Bu f a) (h : a.Perm l) : msT f l = a :=
 (Cx (h.nodup_iff.1 ha.nodup)).eq ha ((AP l).trans h.symm)
theorem Ns {a : List Nat} (ha : Bu f a) : msT f a = a := KD ha (.refl _)
theorem BW (l : List Nat) : (msT f l).length = l.length := (AP l).length_eq
theorem Bu.app {a b : List Nat} (ha : Bu f a) (hb : Bu f b) (h : ∀ x ∈ a, ∀ y ∈ b, Tb f x y) : Bu f (a ++ b) := List.pairwise_append.2 ⟨ha, hb, h⟩
theorem Bu.parts {a b : List Nat} (h : Bu f (a ++ b)) : Bu f a ∧ Bu f b ∧ ∀ x ∈ a, ∀ y ∈ b, Tb f x y := List.pairwise_append.1 h
theorem AaN {u1 u2 v1 v2 : List Nat} (hu : Bu f (u1 ++ u2)) (hv : Bu f (v1 ++ v2)) (hn : ∀ x ∈ u1 ++ u2, ∀ y ∈ v1 ++ v2, x < y) (h1 : ∀ x ∈ u1, ∀ y ∈ v2, Tb f x y) (h2 : ∀ x ∈ v1, ∀ y ∈ u2, Tb f x y) :
  msT f ((u1 ++ u2) ++ (v1 ++ v2)) = msT f (u1 ++ v1) ++ msT f (u2 ++ v2) := by
 obtain ⟨a1, a2, a3⟩ := hu.parts
 obtain ⟨b1, b2, b3⟩ := hv.parts
 have nd : ∀ {p q : List Nat}, Bu f p → Bu f q → (∀ x ∈ p, ∀ y ∈ q, x < y) → (p ++ q).Nodup := fun hp hq h =>
  List.nodup_append.2 ⟨hp.nodup, hq.nodup, fun x hx y hy e => by have := h x hx y hy; omega⟩
 have n1 : (u1 ++ v1).Nodup := nd a1 b1 (fun x hx y hy => hn x (List.mem_append_left _ hx) y (List.mem_append_left _ hy))
 have n2 : (u2 ++ v2).Nodup := nd a2 b2 (fun x hx y hy => hn x (List.mem_append_right _ hx) y (List.mem_append_right _ hy))
 refine KD ((Cx n1).app (Cx n2) (fun x hx y hy => ?_)) ?_
 ·rcases List.mem_append.1 ((AP _).mem_iff.1 hx) with hx | hx <;> rcases List.mem_append.1 ((AP _).mem_iff.1 hy) with hy | hy
  ·exact a3 x hx y hy
  ·exact h1 x hx y hy
  ·exact h2 x hx y hy
  ·exact b3 x hx y hy
 ·refine ((AP _).append (AP _)).trans ?_
  rw [List.append_assoc, List.append_assoc]
  refine List.Perm.append_left u1 ?_
  rw [← List.append_assoc, ← List.append_assoc]
  exact List.Perm.append_right v2 List.perm_append_comm
theorem Nu {x : Nat} {v1 v2 : List Nat} (hv : Bu f (v1 ++ v2)) (h1 : ∀ y ∈ v1, Tb f y x) (h2 : ∀ y ∈ v2, Tb f x y) : msT f (x :: (v1 ++ v2)) = v1 ++ x :: v2 := by
 obtain ⟨b1, b2, b3⟩ := hv.parts
 refine KD (b1.app (List.pairwise_cons.2 ⟨h2, b2⟩) (fun y hy z hz => ?_)) List.perm_middle
 rcases List.mem_cons.1 hz with rfl | hz
 ·exact h1 y hy
 ·exact b3 y hy z hz
theorem Nt {x : Nat} {v1 v2 : List Nat} (hv : Bu f (v1 ++ v2)) (h1 : ∀ y ∈ v1, Tb f y x) (h2 : ∀ y ∈ v2, Tb f x y) : msT f ((v1 ++ v2) ++ [x]) = v1 ++ x :: v2 := by
 rw [← Nu hv h1 h2]
 have nd : (v1 ++ x :: v2).Nodup := by
  obtain ⟨b1, b2, b3⟩ := hv.parts
  refine Bu.nodup (f := f) (b1.app (List.pairwise_cons.2 ⟨h2, b2⟩) (fun y hy z hz => ?_))
  rcases List.mem_cons.1 hz with rfl | hz
  ·exact h1 y hy
  ·exact b3 y hy z hz
 have p : (v1 ++ v2 ++ [x]).Perm (x :: (v1 ++ v2)) := List.perm_append_singleton x (v1 ++ v2)
 exact KD (Cx ((List.perm_middle.nodup_iff).1 nd)) ((AP _).trans p.symm)
def chT (f : Nat → Int) (bs : Nat) (s : Nat) : Nat → Nat → List Nat
 | 0, n => msT f (List.range' s n)
 | k + 1, n => if n ≤ bs then msT f (List.range' s n) else msT f (List.range' s bs) ++ chT f bs (s + bs) k (n - bs)
theorem Ln {bs s k n : Nat} (h : n ≤ bs) : chT f bs s k n = msT f (List.range' s n) := by
 cases k with
 | zero => rfl
 | succ k => rw [chT, if_pos h]
theorem Abm (bs s k n : Nat) : (chT f bs s k n).length = n := by
 induction k generalizing s n with
 | zero => rw [chT, BW, List.length_range']
 | succ k ih =>
  rw [chT]
  split
  ·rw [BW, List.length_range']
  ·rw [List.length_append, BW, List.length_range', ih]; omega
theorem WQ {bs : Nat} (hb : 0 < bs) {s k k' n : Nat} (h : n ≤ k) (h' : n ≤ k') : chT f bs s k n = chT f bs s k' n := by
 induction k generalizing s k' n with
 | zero =>
  obtain rfl : n = 0 := by omega
  rw [Ln (Nat.zero_le _), Ln (Nat.zero_le _)]
 | succ k ih =>
  cases k' with
  | zero =>
   obtain rfl : n = 0 := by omega
   rw [Ln (Nat.zero_le _), Ln (Nat.zero_le _)]
  | succ k' =>
   rw [chT, chT]
   split
   ·rfl
   ·rw [ih (s := s + bs) (k' := k') (n := n - bs) (by omega) (by omega)]
def chR (f : Nat → Int) (bs s n : Nat) : List Nat := chT f bs s n n
theorem GD {bs s n : Nat} (h : n ≤ bs) : chR f bs s n = msT f (List.range' s n) := Ln h
theorem Th {bs s n : Nat} (hb : 0 < bs) (h : bs < n) : chR f bs s n = msT f (List.range' s bs) ++ chR f bs (s + bs) (n - bs) := by
 unfold chR
 cases n with
 | zero => omega
 | succ n =>
  rw [chT, if_neg (by omega)]
  congr 1
  exact WQ hb (by omega) (Nat.le_refl _)
theorem Abn (bs s n : Nat) : (chR f bs s n).length = n := Abm ..
theorem Oq {bs s n : Nat} (hb : 0 < bs) (h : bs ≤ n) : chR f bs s n = msT f (List.range' s bs) ++ chR f bs (s + bs) (n - bs) := by
 rcases Nat.lt_or_ge bs n with h1 | h1
 ·exact Th hb h1
 ·obtain rfl : n = bs := by omega
  rw [GD (Nat.le_refl _), Nat.sub_self, GD (Nat.zero_le _)]
  simp [msT]
end
def Dw (l : List Nat) : List (List V) := l.map fun (k : Nat) => [V.int .i64 (k : Int)]
def Et (l : List Int) : List (List V) := l.map fun n => [V.int .u64 n]
theorem Cl (l : List Nat) : (Dw l).length = l.length := List.length_map _
theorem Uz (l : List Int) : (Et l).length = l.length := List.length_map _
theorem DV (l : List Nat) (i : Nat) (d : List V) (h : i < l.length) : (Dw l).getD i d = [.int .i64 ((l.getD i 0 : Nat) : Int)] := by
 unfold Dw
 rw [List.getD_eq_getElem?_getD, List.getElem?_map, List.getD_eq_getElem?_getD, List.getElem?_eq_getElem h]; rfl
theorem Hb (l : List Int) (i : Nat) (d : List V) (h : i < l.length) : (Et l).getD i d = [.int .u64 (l.getD i 0)] := by
 unfold Et
 rw [List.getD_eq_getElem?_getD, List.getElem?_map, List.getD_eq_getElem?_getD, List.getElem?_eq_getElem h]; rfl
theorem VT (l : List Nat) (i v : Nat) : (Dw l).set i [.int .i64 (v : Int)] = Dw (l.set i v) := by unfold Dw; rw [List.map_set]
theorem Uy (l : List Int) (i : Nat) (v : Int) : (Et l).set i [.int .u64 v] = Et (l.set i v) := by unfold Et; rw [List.map_set]
theorem AU (l : List Nat) : (∀ r ∈ Dw l, V.purs r = true) ↔ True := iff_true_intro fun r hr => by obtain ⟨x, _, rfl⟩ := List.mem_map.1 hr; rfl
theorem AS (l : List Int) : (∀ r ∈ Et l, V.purs r = true) ↔ True := iff_true_intro fun r hr => by obtain ⟨x, _, rfl⟩ := List.mem_map.1 hr; rfl
theorem KB (l : List Nat) : (∀ r ∈ Dw l, r.length = 1) ↔ True := iff_true_intro fun r hr => by obtain ⟨x, _, rfl⟩ := List.mem_map.1 hr; rfl
theorem Qa (l : List Int) : (∀ r ∈ Et l, r.length = 1) ↔ True := iff_true_intro fun r hr => by obtain ⟨x, _, rfl⟩ := List.mem_map.1 hr; rfl
attribute [go_sem] Cl Uz AU AS KB Qa
def fr (r : List Int) (k : Nat) : Int := r.getD k 0
def SO (r : List Int) (n : Nat) (d : List Nat) : List (Nat × Ob) :=
 [(1000, .box 204 [.own 1002 r.length]), (1001, .box 42 [.own 1003 n]), (1002, .arr 189 1 (Et r)), (1003, .arr 3 1 (Dw d))]
theorem Nw {d : List Nat} {n i : Nat} (h : ∀ k ∈ d, k < n) (hi : i < d.length) : d.getD i 0 < n := by
 rw [List.getD_eq_getElem?_getD, List.getElem?_eq_getElem hi]; exact h _ (List.getElem_mem hi)
theorem AdX (r : List Int) (n : Nat) (d : List Nat) (hn : d.length = n) (hd : ∀ k ∈ d, k < r.length) (i j : Nat) (hi : i < d.length) (hj : j < d.length) :
  Eff Tryz.prog UT 145 [.int .i64 i, .int .i64 j, .ptr 1000 0, .ptr 1001 0] (SO r n d) (.bool (decide (fr r (d.getD j 0) < fr r (d.getD i 0)))) (SO r n d) := by
 have hG := AC
 have h1 := Nw hd hi
 have h2 := Nw hd hj
 have hi' : i < n := hn ▸ hi
 have hj' : j < n := hn ▸ hj
 refine AeS.e (by simp) fun C hN Q hQ => ?_
 have Y := AeS.D EF0 hG hN mixed
 have Z := AeS.R EF0 hG hN
 refine Aa (Z 0 rfl ?_)
 simp only [go_sem, simprocAttr, SO]
 refine Aa (Y 1 rfl (by kernel_rfl) ?_)
 simp only [go_sem, simprocAttr, hn, DV _ _ _ hi, DV _ _ _ hj, Hb _ _ _ h1, Hb _ _ _ h2]
 and_intros <;> try exact sdA
 refine Ae ?_
 show Q _ _
 refine hQ _ _ ⟨mkE [(6, .bool (decide (fr r (d.getD j 0) < fr r (d.getD i 0))))], mkH (SO r n d)⟩ (.inl rfl) (Le.mk _ _ ?_ ?_ rfl) rfl ?_ ?_ <;> simp only [go_sem, simprocAttr, SO, fr]
 rfl
def swp (d : List Nat) (i j : Nat) : List Nat := (d.set i (d.getD j 0)).set j (d.getD i 0)
theorem ZE (d : List Nat) (i j : Nat) : (swp d i j).length = d.length := by unfold swp; rw [List.length_set, List.length_set]
theorem QI {dd : Option Nat} {s : St} {K : St → Prop} {f : Nat} {us : List V} {v : V} {r : List Int} {n : Nat} {d d' : List Nat} (he : Eff Tryz.prog UT f us (SO r n d) v (SO r n d'))
  (hr : V.rens (rni [(1000, 1000), (1001, 1001), (1002, 1002), (1003, 1003)]) us = us) (hn : V.nins [1000, 1001, 1002, 1003] us = true) (hv1 : v.nin [1000, 1001, 1002, 1003] = true) (hv2 : v.ren (rn ([(1000, 1000), (1001, 1001), (1002, 1002), (1003, 1003)] ++ [])) = v)
  (hb : s.h 1000 = some (.box 204 [.own 1002 r.length])) (hc : s.h 1001 = some (.box 42 [.own 1003 n])) (hx : s.h 1002 = some (.arr 189 1 (Et r))) (hy : s.h 1003 = some (.arr 3 1 (Dw d)))
  (hK : K ⟨Ew dd v s.e, hov (SO r n d') s.h⟩) : CQ Tryz.prog UT dd f us s K := by
 refine ⟨[(1000, 1000), (1001, 1001), (1002, 1002), (1003, 1003)], [], _, _, _, _, he, ⟨by decide, rfl, rfl, by simp, by simp, ?_, hr, hn, hv1, ?_, ?_⟩, ?_⟩
 ·intro p hp
  simp only [List.mem_cons, List.not_mem_nil, or_false] at hp
  rcases hp with rfl | rfl | rfl | rfl
  ·exact ⟨_, hb, by simp [SO, mkH, Ob.ren, Al ((AS _).2 trivial), Al ((AU _).2 trivial), V.rens, V.ren, rni], by simp [Ob.nin, V.nins, V.nin]⟩
  ·exact ⟨_, hc, by simp [SO, mkH, Ob.ren, Al ((AS _).2 trivial), Al ((AU _).2 trivial), V.rens, V.ren, rni], by simp [Ob.nin, V.nins, V.nin]⟩
  ·exact ⟨_, hx, by simp [SO, mkH, Ob.ren, Al ((AS _).2 trivial), Al ((AU _).2 trivial)], by simp only [Ob.nin, true_or, AS]⟩
  ·exact ⟨_, hy, by simp [SO, mkH, Ob.ren, Al ((AS _).2 trivial), Al ((AU _).2 trivial)], by simp only [Ob.nin, true_or, AU]⟩
 ·intro q hq
  simp only [SO, List.mem_cons, List.not_mem_nil, or_false] at hq
  rcases hq with rfl | rfl | rfl | rfl
  ·simp [Ob.nin, V.nins, V.nin, SO]
  ·simp [Ob.nin, V.nins, V.nin, SO]
  ·simp only [Ob.nin, true_or, AS]
  ·simp only [Ob.nin, true_or, AU]
 ·intro p hp o o' h1 h2
  simp only [List.mem_cons, List.not_mem_nil, or_false] at hp
  rcases hp with rfl | rfl | rfl | rfl <;> simp [SO, mkH] at h1 h2 <;> subst h1 h2 <;> simp [Ob.kind]
 ·have e2 : (SO r n d').map (fun q => (rn ([(1000, 1000), (1001, 1001), (1002, 1002), (1003, 1003)] ++ []) q.1, q.2.ren (rn ([(1000, 1000), (1001, 1001), (1002, 1002), (1003, 1003)] ++ [])))) = SO r n d' := by
   simp [SO, rn, Ob.ren, Al ((AS _).2 trivial), Al ((AU _).2 trivial), V.rens, V.ren]
  rw [hv2, e2]
  exact hK
def AaV : TypeInfo := (Tryz.prog.info? 3).get (by kernel_rfl)
def hdl : Value := Go.typeHandle Tryz.prog 3
theorem LO (args : Array Value) (W : World) : (callFunc 219 args).run Tryz.prog W = ((Extern.ReflectliteSwapper.swap true args).run Tryz.prog W).andThen fun v w' => .ok (.value v) w' :=
 run_callFunc_extern Tryz.func219 (by kernel_rfl) (by kernel_rfl) (by kernel_rfl) (e := Extern.ReflectliteSwapper.swap true) (by kernel_rfl) args W
theorem WW (l : List Int) (i : Nat) (h : i < l.length) : l.toArray[i]! = l.getD i 0 := by
 rw [List.getD_eq_getElem?_getD, List.getElem?_eq_getElem h, getElem!_pos _ i (by simpa using h)]
 simp
theorem Xn {r : List Int} {k : Nat} {d : List Nat} {n : Nat} {t sz rows} (h : mkH (SO r k d) n = some (.arr t sz rows)) : n = 1002 ∧ t = 189 ∧ sz = 1 ∧ rows = Et r ∨ n = 1003 ∧ t = 3 ∧ sz = 1 ∧ rows = Dw d := by
 simp only [SO, mkH] at h
 repeat' split at h
 all_goals first | (rename_i e; subst e; injection h with h; injection h with h1 h2 h3; subst h1 h2 h3; simp; done) | (injection h with h; cases h) | cases h
theorem AdS (r : List Int) (n : Nat) (d : List Nat) (d' : List Nat) : Ep (mkH (SO r n d)) 1003 (.arr 3 1 (Dw d')) = mkH (SO r n d') := by
 funext m
 unfold Ep
 simp only [SO, mkH]
 by_cases e : m = 1003
 ·subst e; simp
 ·rw [if_neg e, if_neg e, if_neg e]
theorem Rx {w : World} {t : TypeId} {v : Value} {n : Nat} {xs : List Value} (h : w.ownsRow 0 t 1 v n xs) (h0 : 0 < n) : ∃ g cap, v = .slice (some ⟨g, 0, none⟩) n cap ∧ g < w.heap.size := by
 rcases h.2 with ⟨_, e⟩ | ⟨g, cap, cur, e, _, hh, _⟩
 ·omega
 ·exact ⟨g, cap, e, (Array.getElem?_eq_some_iff.1 hh).1⟩
theorem ZF (d : List Nat) {i j k : Nat} (hi : i < d.length) (hj : j < d.length) (hk : k < d.length) : (swp d i j).getD k 0 = if j = k then d.getD i 0 else if i = k then d.getD j 0 else d.getD k 0 := by
 simp only [swp, List.getD_eq_getElem?_getD, List.getElem?_set, List.length_set]
 by_cases c1 : j = k
 ·subst c1; simp [hj]
 ·by_cases c2 : i = k
  ·subst c2; simp [c1, hi]
  ·simp [c1, c2]
theorem pin_inv {M : Nat → Prop} {w : World} {ι : Nat → Value} {h : Nat → Option Ob} {cv cv' : Value} (r : Rel M w ι h (.pin cv) cv') : cv' = cv := by cases r with | pur hp => cases hp; rfl
theorem Ac6 (r : List Int) (n : Nat) (d : List Nat) (hn : d.length = n) (i j : Nat) (hi : i < d.length) (hj : j < d.length) :
  Eff Tryz.prog UT 219 [.int .i64 i, .int .i64 j, .own 1003 n, .pin hdl] (SO r n d) (.tup []) (SO r n (swp d i j)) := by
 subst hn
 refine .inr fun w M ι cargs hm hsz hargs => ?_
 have a0 := (hargs 0 _ rfl).int_inv
 have a1 := (hargs 1 _ rfl).int_inv
 have a2 := hargs 2 _ rfl
 have a3 : cargs.getD 3 undef = hdl := pin_inv (hargs 3 _ rfl)
 obtain ⟨xs, hown, hrl, hx1, hv⟩ := hm.obj 1003 (.arr 3 1 (Dw d)) rfl
 rw [Cl] at hown
 have e2 : cargs.getD 2 undef = ι 1003 := by
  cases a2 with
  | pur hp => cases hp
  | own _ _ t sz rows _ ho hle hv hs =>
   rcases Xn ho with ⟨e, _⟩ | ⟨_, _, _, rfl⟩
   ·cases e
   ·exact hv (Cl d)
 obtain ⟨g, cap, eι, hg⟩ := Rx hown (by omega)
 have hcargs : cargs = #[.int .i64 i, .int .i64 j] ++ #[.slice (some ⟨g, 0, none⟩) d.length cap, hdl] := by
  rw [← eι, ← e2, ← a0, ← a1, ← a3]
  refine Array.ext (by simpa using hsz) fun k hk _ => ?_
  have hk4 : k < 4 := by rw [hsz] at hk; exact hk
  match k, hk4 with
  | 0, _ => simp [Array.getD, show 0 < cargs.size by omega]
  | 1, _ => simp [Array.getD, show 1 < cargs.size by omega]
  | 2, _ => simp [Array.getD, show 2 < cargs.size by omega]
  | 3, _ => simp [Array.getD, show 3 < cargs.size by omega]
 have hxs : ∀ k (hk : k < d.length), xs[k]? = some (.int .i64 ((d.getD k 0 : Nat) : Int)) := fun k hk => by
  have h1 := hv k 0 [.int .i64 ((d.getD k 0 : Nat) : Int)] (.int .i64 ((d.getD k 0 : Nat) : Int)) (by
   have := DV d k [] hk
   rw [List.getD_eq_getElem?_getD, List.getElem?_eq_getElem (by rw [Cl]; exact hk), Option.getD_some] at this
   rw [List.getElem?_eq_getElem (by rw [Cl]; exact hk), this]) rfl
  have hl : k < xs.length := by rw [hown.1]; omega
  rw [List.getElem?_eq_getElem hl, ← h1.int_inv, Nat.mul_one, Nat.add_zero, List.getD_eq_getElem?_getD, List.getElem?_eq_getElem hl]
  rfl
 rw [eι] at hown
 generalize hD : (d.map fun (k : Nat) => (k : Int)) = D
 have hDl : D.length = d.length := by rw [← hD, List.length_map]
 have hDg : ∀ k, k < d.length → D.toArray[k]! = ((d.getD k 0 : Nat) : Int) := fun k hk => by
  rw [WW D k (by omega), ← hD, List.getD_eq_getElem?_getD, List.getElem?_map, List.getD_eq_getElem?_getD, List.getElem?_eq_getElem hk]
  rfl
 have hH : Sort.Holds (Value.int .i64) w g 0 D.toArray := fun k hk => by
  have hk2 : k < d.length := by simpa [hDl] using hk
  rw [Nat.zero_add]
  exact ⟨by rw [hown.cellAt k (by omega), hxs k hk2, hDg k hk2], hown.frozenAt k⟩
 have hrun := swapSwaps_of_literal (P := Tryz.prog) true 219 LO 3 AaV (by kernel_rfl) (by kernel_rfl) (fun _ => by kernel_rfl) (Value.int .i64) (fun _ => rfl) g 0 d.length cap w D.toArray hH (by simpa using hDl) i j hi hj
 rw [hDg i hi, hDg j hj, Nat.zero_add, Nat.zero_add] at hrun
 obtain ⟨o1, g1⟩ := hown.stored i (.int .i64 ((d.getD j 0 : Nat) : Int))
 obtain ⟨o2, g2⟩ := o1.stored j (.int .i64 ((d.getD i 0 : Nat) : Int))
 generalize hw1 : (w.setCell ⟨g, i, none⟩ (.int .i64 ((d.getD j 0 : Nat) : Int))).setCell ⟨g, j, none⟩ (.int .i64 ((d.getD i 0 : Nat) : Int)) = w1 at *
 have hids : Jl ι 1003 (ι 1003) = ι := by funext m; unfold Jl; split <;> simp_all
 have hlen := ZE d i j
 have hkeep : Keeps (mkH (SO r d.length d)) (Ep (mkH (SO r d.length d)) 1003 (.arr 3 1 (Dw (swp d i j)))) ι (Jl ι 1003 (ι 1003)) :=
  Keeps.put (o := .arr 3 1 (Dw d)) rfl (.inr (.inl ⟨_, _, _, _, rfl, rfl, by rw [Cl, Cl, hlen]; exact Nat.le_refl _, fun _ => rfl⟩))
 have hblk : ∀ k, k < w.heap.size → (∀ o, mkH (SO r d.length d) 1003 = some o → blk (ι 1003) ≠ some k) → w1.heap[k]? = w.heap[k]? := fun k _ hne => by
  have hkg : k ≠ g := fun e => hne _ rfl (by rw [eι, e]; rfl)
  rw [← hw1, Below.heap_setCell _ _ _ k hkg, Below.heap_setCell _ _ _ k hkg]
 have hob : obR M w1 (Jl ι 1003 (ι 1003)) (Ep (mkH (SO r d.length d)) 1003 (.arr 3 1 (Dw (swp d i j)))) 1003 (.arr 3 1 (Dw (swp d i j))) := by
  rw [hids]
  refine ⟨(xs.set i (.int .i64 ((d.getD j 0 : Nat) : Int))).set j (.int .i64 ((d.getD i 0 : Nat) : Int)), ?_, KB _ |>.2 trivial, fun x hx => ?_, fun k m row v h1 h2 => ?_⟩
  ·rw [Cl, hlen, eι]; exact o2
  ·rcases List.mem_or_eq_of_mem_set hx with hx | rfl
   ·rcases List.mem_or_eq_of_mem_set hx with hx | rfl
    ·exact hx1 x hx
    ·rfl
   ·rfl
  ·have hk : k < d.length := by have := (List.getElem?_eq_some_iff.1 h1).1; rwa [Cl, hlen] at this
   have hrow : row = [.int .i64 (((swp d i j).getD k 0 : Nat) : Int)] := by
    have := DV (swp d i j) k [] (by omega)
    rw [List.getD_eq_getElem?_getD, h1] at this
    exact this
   subst hrow
   obtain rfl : m = 0 := by have := (List.getElem?_eq_some_iff.1 h2).1; simp at this; omega
   injection h2 with h2
   subst h2
   have hxl : xs.length = d.length := by have := hown.1; omega
   have : ((xs.set i (.int .i64 ((d.getD j 0 : Nat) : Int))).set j (.int .i64 ((d.getD i 0 : Nat) : Int))).getD (k * 1 + 0) undef = .int .i64 (((swp d i j).getD k 0 : Nat) : Int) := by
    rw [Nat.mul_one, Nat.add_zero, ZF d hi hj hk, List.getD_eq_getElem?_getD]
    simp only [List.getElem?_set, List.length_set, hxl]
    by_cases c1 : j = k
    ·subst c1; simp [hk]
    ·by_cases c2 : i = k
     ·subst c2; simp [c1, hk]
     ·simp only [c1, c2, if_false]
      rw [hxs k hk]; rfl
   rw [this]
   exact .pur (.int _ _)
 obtain ⟨s1, s2⟩ := hm.step 1003 (.arr 3 1 (Dw (swp d i j))) (ι 1003) w1 (by rw [← hw1]; simp) (by rw [← hw1]; rfl) (by rw [← hw1]; rfl) (by rw [← hw1]; rfl) hblk (fun q hq => .inl ⟨_, rfl, hq⟩) hkeep hob (fun _ => rfl) (fun _ => ⟨fun _ _ h => (by cases h), fun _ h => (by cases h)⟩)
 rw [hids, AdS r _ d _] at s1
 refine ⟨.tuple #[], w1, M, ι, ?_, .pur (.tup [] #[] rfl (fun i v hi => by cases hi)), s1⟩
 rw [hcargs]
 exact hrun
def EFs : Nat → Bool := fun f => f == 145 || f == 219 || f == 224 || f == 225 || f == 246 || f == 256
def DD (n : Nat) : V := .agg [.fn 145 [.ptr 1000 0, .ptr 1001 0], .fn 219 [.own 1003 n, .pin hdl]]
section
variable {dd : Option Nat} {s : St} {K : St → Prop} {r : List Int} {n : Nat} {d d' : List Nat}
theorem MX {x y : Int} (i j : Nat) (hx : x = i) (hy : y = j) (hn : d.length = n) (hi : i < d.length) (hj : j < d.length) (hd : swp d i j = d')
  (h0 : s.h 1000 = some (.box 204 [.own 1002 r.length])) (h1 : s.h 1001 = some (.box 42 [.own 1003 n])) (h2 : s.h 1002 = some (.arr 189 1 (Et r))) (h3 : s.h 1003 = some (.arr 3 1 (Dw d)))
  (hK : K ⟨Ew dd (.tup []) s.e, hov (SO r n d') s.h⟩) : CQ Tryz.prog UT dd 219 [.int .i64 x, .int .i64 y, .own 1003 n, .pin hdl] s K := by
 subst hx hy hd
 exact QI (Ac6 r n d hn i j hi hj) (by simp [V.rens, V.ren, rni]) (by simp [V.nins, V.nin]) (by simp [V.nin, V.nins]) (by simp [V.ren, V.rens]) h0 h1 h2 h3 hK
theorem NB {x y : Int} {b : Bool} (i j : Nat) (hx : x = i) (hy : y = j) (hn : d.length = n) (hd : ∀ k ∈ d, k < r.length) (hi : i < d.length) (hj : j < d.length) (hb : b = decide (fr r (d.getD j 0) < fr r (d.getD i 0)))
  (h0 : s.h 1000 = some (.box 204 [.own 1002 r.length])) (h1 : s.h 1001 = some (.box 42 [.own 1003 n])) (h2 : s.h 1002 = some (.arr 189 1 (Et r))) (h3 : s.h 1003 = some (.arr 3 1 (Dw d)))
  (hK : K ⟨Ew dd (.bool b) s.e, hov (SO r n d) s.h⟩) : CQ Tryz.prog UT dd 145 [.int .i64 x, .int .i64 y, .ptr 1000 0, .ptr 1001 0] s K := by
 subst hx hy hb
 exact QI (AdX r n d hn hd i j hi hj) (by simp [V.rens, V.ren, rni]) (by simp [V.nins, V.nin]) (by simp [V.nin]) (by simp [V.ren]) h0 h1 h2 h3 hK
end
theorem Kb (P Q R : List Nat) (x y : Nat) {i j : Nat} (hi : i = P.length) (hj : j = P.length + 1 + Q.length) : swp (P ++ x :: (Q ++ y :: R)) i j = P ++ y :: (Q ++ x :: R) := by
 subst hi hj
 have g1 : (P ++ x :: (Q ++ y :: R)).getD P.length 0 = x := by simp [List.getD_eq_getElem?_getD]
 have g2 : (P ++ x :: (Q ++ y :: R)).getD (P.length + 1 + Q.length) 0 = y := by
  rw [List.getD_eq_getElem?_getD, List.getElem?_append_right (by omega), show P.length + 1 + Q.length - P.length = Q.length + 1 by omega, List.getElem?_cons_succ, List.getElem?_append_right (by omega), Nat.sub_self]
  rfl
 unfold swp
 rw [g1, g2, List.set_append_right _ _ (Nat.le_refl _), Nat.sub_self, List.set_cons_zero, List.set_append_right _ _ (by omega), show P.length + 1 + Q.length - P.length = Q.length + 1 by omega, List.set_cons_succ, List.set_append_right _ _ (by omega), Nat.sub_self, List.set_cons_zero]
theorem Fe (r : List Int) (n : Nat) (A X M Y B : List Nat) (hXY : X.length = Y.length) (hn : (A ++ (X ++ (M ++ (Y ++ B)))).length = n) (hbig : n ≤ 1000000) {a b c : Int} (ha : a = A.length) (hb : b = (A.length + X.length + M.length : Nat)) (hc : c = X.length) :
  Eff Tryz.prog UT 256 [DD n, .int .i64 a, .int .i64 b, .int .i64 c] (SO r n (A ++ (X ++ (M ++ (Y ++ B))))) (.tup []) (SO r n (A ++ (Y ++ (M ++ (X ++ B))))) := by
 subst ha hb hc
 have hG := AC
 simp only [List.length_append] at hn
 refine Aee.e (by simp) fun C hN Q hQ => ?_
 have Z := Aee.R EFs hG hN
 refine Aa (Z 0 rfl ?_)
 simp only [go_sem, simprocAttr, EFs, tNo, SO, DD]
 refine Aa (Z 1 rfl ?_)
 simp only [go_sem, simprocAttr, EFs, tNo, SO, DD]
 refine Ad ?_
 refine Aj (α := (List Nat) × (List Nat) × (List Nat) × (List Nat)) (fun γ => (X = γ.1 ++ γ.2.1) ∧ (Y = γ.2.2.1 ++ γ.2.2.2) ∧ (γ.1.length = γ.2.2.1.length)) (fun γ => ⟨mkE [(1, V.int IntKind.i64 ↑A.length), (2, V.int IntKind.i64 ↑(A.length + X.length + M.length)), (3, V.int IntKind.i64 ↑X.length), (4, V.ptr 4 0), (8, .int .i64 γ.1.length)], mkH [(4, Ob.box 253 [V.fn 145 [V.ptr 1000 0, V.ptr 1001 0], V.fn 219 [V.own 1003 n, V.pin hdl]]), (1000, Ob.box 204 [V.own 1002 r.length]), (1001, Ob.box 42 [V.own 1003 n]), (1002, Ob.arr 189 1 (Et r)), (1003, .arr 3 1 (Dw (A ++ (γ.2.2.1 ++ (γ.2.1 ++ (M ++ (γ.1 ++ (γ.2.2.2 ++ B))))))))]⟩) (fun γ => γ.2.1.length) ([], X, [], Y) ⟨rfl, rfl, rfl⟩ ?_ ?_
 ·exact leM
 rintro ⟨X1, X2, Y1, Y2⟩ ⟨h1, h2, h3⟩ KL0 hKL0
 try dsimp only at *
 refine Aa (Aa (Z 2 rfl ?_))
 simp only [go_sem, simprocAttr, EFs, tNo, SO, DD]
 refine Ab rfl (fun hc2 => ?_) fun hc2 => ?_
 ·simp only [hcL] at hc2
  refine Ac ?_
  refine Aa (Ad ?_)
  obtain ⟨x, X2, rfl⟩ : ∃ x l, X2 = x :: l := List.exists_cons_of_length_pos (by rw [h1, List.length_append] at hc2; omega)
  obtain ⟨y, Y2, rfl⟩ : ∃ x l, Y2 = x :: l := List.exists_cons_of_length_pos (by have e1 := congrArg List.length h1; have e2 := congrArg List.length h2; rw [List.length_append] at e1 e2; simp only [List.length_cons] at e1; omega)
  have e1 := congrArg List.length h1
  have e2 := congrArg List.length h2
  simp only [List.length_append, List.length_cons] at e1 e2
  refine Z 4 rfl ?_
  simp only [go_sem, simprocAttr, inI, EFs, tNo, SO, DD]
  and_intros <;> try exact sdA
  refine MX (d' := A ++ ((Y1 ++ [y]) ++ (X2 ++ (M ++ ((X1 ++ [x]) ++ (Y2 ++ B)))))) (A.length + X1.length) (A.length + X.length + M.length + X1.length) (by simp) (by simp) ?_ ?_ ?_ ?_ rfl rfl rfl rfl ?_
  ·simp only [List.length_append, List.length_cons]; omega
  ·simp only [List.length_append, List.length_cons]; omega
  ·simp only [List.length_append, List.length_cons]; omega
  ·have := Kb (A ++ Y1) (X2 ++ (M ++ X1)) (Y2 ++ B) x y (i := A.length + X1.length) (j := A.length + X.length + M.length + X1.length) (by simp only [List.length_append]; omega) (by simp only [List.length_append]; omega); simpa using this
  simp only [go_sem, simprocAttr, EFs, SO]
  refine Z 3 rfl ?_
  simp only [go_sem, simprocAttr, inI, EFs, tNo, SO, DD]
  and_intros <;> try exact sdA
  refine hKL0 (X1 ++ [x], X2, Y1 ++ [y], Y2) _ ?_ ?_ ?_
  ·(try dsimp only); exact ⟨by rw [h1]; simp, by rw [h2]; simp, by simp [h3]⟩
  ·(try dsimp only); simp
  refine Le.mk _ _ ?_ ?_ rfl <;> simp only [go_sem, simprocAttr, List.length_append] <;> and_intros <;> try exact leA
 simp only [hcL] at hc2
 have e1 := congrArg List.length h1
 have e2 := congrArg List.length h2
 simp only [List.length_append] at e1 e2
 obtain rfl : X2 = [] := List.eq_nil_of_length_eq_zero (by omega)
 obtain rfl : Y2 = [] := List.eq_nil_of_length_eq_zero (by omega)
 rw [List.append_nil] at h1 h2
 subst h1 h2
 refine Ai ?_
 simp only [go_sem, simprocAttr]
 show Q _ _
 refine hQ _ _ ⟨mkE [], mkH (SO r n (A ++ (Y ++ (M ++ (X ++ B)))))⟩ (.inr rfl) (Le.mk _ _ ?_ ?_ rfl) rfl ?_ ?_ <;> simp only [go_sem, simprocAttr, SO]
section
variable {dd : Option Nat} {s : St} {K : St → Prop} {r : List Int} {n : Nat} {d d' : List Nat}
theorem Un {f : Nat} {xs : List V} (he : Eff Tryz.prog UT f (DD n :: xs) (SO r n d) (.tup []) (SO r n d')) (hr : V.rens (rni [(1000, 1000), (1001, 1001), (1002, 1002), (1003, 1003)]) xs = xs) (hn : V.nins [1000, 1001, 1002, 1003] xs = true)
  (h0 : s.h 1000 = some (.box 204 [.own 1002 r.length])) (h1 : s.h 1001 = some (.box 42 [.own 1003 n])) (h2 : s.h 1002 = some (.arr 189 1 (Et r))) (h3 : s.h 1003 = some (.arr 3 1 (Dw d)))
  (hK : K ⟨Ew dd (.tup []) s.e, hov (SO r n d') s.h⟩) : CQ Tryz.prog UT dd f (.agg [.fn 145 [.ptr 1000 0, .ptr 1001 0], .fn 219 [.own 1003 n, .pin hdl]] :: xs) s K := by
 refine QI he ?_ ?_ (by simp [V.nin, V.nins]) (by simp [V.ren, V.rens]) h0 h1 h2 h3 hK
 ·rw [V.rens, hr]; simp [V.rens, V.ren, rni]
 ·simp [V.nins, V.nin, hn]
end
theorem VD (r : List Int) (n : Nat) (A X Y B : List Nat) (hX : 0 < X.length) (hY : 0 < Y.length) (hn : (A ++ (X ++ (Y ++ B))).length = n) (hbig : n ≤ 1000000) {a m b : Int} (ha : a = A.length) (hm : m = (A.length + X.length : Nat)) (hb : b = (A.length + X.length + Y.length : Nat)) :
  Eff Tryz.prog UT 246 [DD n, .int .i64 a, .int .i64 m, .int .i64 b] (SO r n (A ++ (X ++ (Y ++ B)))) (.tup []) (SO r n (A ++ (Y ++ (X ++ B)))) := by
 subst ha hb hm
 have hG := AC
 have hn0 := hn
 simp only [List.length_append] at hn
 generalize hT : A ++ (Y ++ (X ++ B)) = T
 have hTl : T.length = n := by rw [← hT]; simp only [List.length_append]; omega
 generalize hmm : A.length + X.length = mm
 refine Aeh.e (by simp) fun C hN Q hQ => ?_
 have Z := Aeh.R EFs hG hN
 refine Aa (Z 0 rfl ?_)
 simp only [go_sem, simprocAttr, EFs, tNo, SO, DD]
 refine Aa (Z 1 rfl ?_)
 simp only [go_sem, simprocAttr, inI, EFs, tNo, SO, DD]
 and_intros <;> try exact sdA
 refine Aa (Z 2 rfl ?_)
 simp only [go_sem, simprocAttr, inI, EFs, tNo, SO, DD]
 and_intros <;> try exact sdA
 refine Aa (Ad ?_)
 refine Aj (α := (List Nat) × (List Nat) × (List Nat) × (List Nat)) (fun γ => (γ.1 ++ (γ.2.2.1 ++ (γ.2.1 ++ γ.2.2.2)) = T) ∧ (γ.1.length + γ.2.1.length = mm) ∧ (0 < γ.2.1.length) ∧ (0 < γ.2.2.1.length)) (fun γ => ⟨mkE [(2, V.int IntKind.i64 ↑mm), (4, V.ptr 4 0), (8, .int .i64 γ.2.1.length), (9, .int .i64 γ.2.2.1.length)], mkH [(4, Ob.box 253 [V.fn 145 [V.ptr 1000 0, V.ptr 1001 0], V.fn 219 [V.own 1003 n, V.pin hdl]]), (1000, Ob.box 204 [V.own 1002 r.length]), (1001, Ob.box 42 [V.own 1003 n]), (1002, Ob.arr 189 1 (Et r)), (1003, .arr 3 1 (Dw (γ.1 ++ (γ.2.1 ++ (γ.2.2.1 ++ γ.2.2.2)))))]⟩) (fun γ => γ.2.1.length + γ.2.2.1.length) (A, X, Y, B) ⟨hT, hmm, hX, hY⟩ ?_ ?_
 ·refine Le.mk _ _ ?_ ?_ rfl <;> simp only [go_sem, simprocAttr] <;> and_intros <;> try exact leA
  all_goals omega
 rintro ⟨P, U, W, E⟩ ⟨h1, h2, h3, h4⟩ KL0 hKL0
 try dsimp only at *
 have hl := congrArg List.length h1
 simp only [List.length_append] at hl
 refine Aa (Aa (Z 3 rfl ?_))
 simp only [go_sem, simprocAttr, EFs, tNo, SO, DD]
 refine Ab rfl (fun hb3 => ?_) fun hb3 => ?_
 ·have hne : U.length ≠ W.length := fun e => by rw [e] at hb3; simp at hb3
  refine Ac ?_
  refine Ad (Aa (Z 4 rfl ?_))
  simp only [go_sem, simprocAttr, EFs, tNo, SO, DD]
  refine Ab rfl (fun hc4 => ?_) fun hc4 => ?_
  ·simp only [hcL] at hc4
   obtain ⟨U1, U2, rfl, hU⟩ : ∃ U1 U2, U = U1 ++ U2 ∧ U1.length = W.length := ⟨U.take W.length, U.drop W.length, (List.take_append_drop _ _).symm, by rw [List.length_take]; omega⟩
   simp only [List.length_append] at hl h2 h3 hc4 hne
   refine Aa (Z 5 rfl ?_)
   simp only [go_sem, simprocAttr, inI, List.length_append, EFs, tNo, SO, DD]
   and_intros <;> try exact sdA
   refine Un (Fe r n P U1 U2 W E (by omega) (by simp only [List.length_append]; omega) hbig (by omega) (by omega) (by omega)) (by simp [V.rens, V.ren]) (by simp [V.nins, V.nin]) rfl rfl rfl ?_ ?_
   ·simp only [List.append_assoc]; rfl
   simp only [go_sem, simprocAttr, EFs, SO]
   refine Z 6 rfl ?_
   simp only [go_sem, simprocAttr, inI, EFs, tNo, SO, DD]
   and_intros <;> try exact sdA
   refine hKL0 (P ++ W, U2, U1, E) _ ?_ ?_ ?_
   ·(try dsimp only); exact ⟨by rw [← h1]; simp, by simp only [List.length_append]; omega, by omega, by omega⟩
   ·(try dsimp only); simp only [List.length_append]; omega
   refine Le.mk _ _ ?_ ?_ rfl <;> simp only [go_sem, simprocAttr, List.length_append, List.append_assoc] <;> and_intros <;> try exact leA
   all_goals (try omega)
  simp only [hcL] at hc4
  obtain ⟨W1, W2, rfl, hU⟩ : ∃ U1 U2, W = U1 ++ U2 ∧ U2.length = U.length := ⟨W.take (W.length - U.length), W.drop (W.length - U.length), (List.take_append_drop _ _).symm, by rw [List.length_drop]; omega⟩
  simp only [List.length_append] at hl h2 h3 hc4 hne
  refine Aa (Z 7 rfl ?_)
  simp only [go_sem, simprocAttr, inI, List.length_append, EFs, tNo, SO, DD]
  and_intros <;> try exact sdA
  refine Un (Fe r n P U W1 W2 E (by omega) (by simp only [List.length_append]; omega) hbig (by omega) (by omega) (by omega)) (by simp [V.rens, V.ren]) (by simp [V.nins, V.nin]) rfl rfl rfl ?_ ?_
  ·simp only [List.append_assoc]; rfl
  simp only [go_sem, simprocAttr, EFs, SO]
  refine Z 8 rfl ?_
  simp only [go_sem, simprocAttr, inI, EFs, tNo, SO, DD]
  and_intros <;> try exact sdA
  refine hKL0 (P, W2, W1, U ++ E) _ ?_ ?_ ?_
  ·(try dsimp only); exact ⟨by rw [← h1]; simp, by omega, by omega, by omega⟩
  ·(try dsimp only); simp only [List.length_append]; omega
  refine Le.mk _ _ ?_ ?_ rfl <;> simp only [go_sem, simprocAttr, List.length_append, List.append_assoc] <;> and_intros <;> try exact leA
  all_goals (try omega)
 have heq0 : (U.length : Int) = W.length := by simpa using hb3
 have heq : U.length = W.length := by omega
 refine Ai ?_
 simp only [go_sem, simprocAttr]
 refine Z 9 rfl ?_
 simp only [go_sem, simprocAttr, inI, EFs, tNo, SO, DD]
 and_intros <;> try exact sdA
 refine Un (Fe r n P U [] W E heq (by simp only [List.length_append, List.length_nil]; omega) hbig (by omega) (by rw [List.length_nil]; omega) (by omega)) (by simp [V.rens, V.ren]) (by simp [V.nins, V.nin]) rfl rfl rfl ?_ ?_
 ·simp only [List.nil_append]; rfl
 simp only [go_sem, simprocAttr, EFs, SO]
 show Q _ _
 refine hQ _ _ ⟨mkE [], mkH (SO r n T)⟩ (.inr rfl) (Le.mk _ _ ?_ ?_ rfl) rfl ?_ ?_ <;> simp only [go_sem, simprocAttr, SO, h1, List.nil_append]
section
variable {f : Nat → Int}
theorem Hr {a b : List Nat} (h : a.Perm b) (hn : b.Nodup) : msT f a = msT f b :=
 KD (Cx hn) ((AP b).trans h.symm)
theorem NE {S1 S2 L1 : List Nat} {x : Nat} (hs : S1 ++ S2 = msT f L1) (hL : (L1 ++ [x]).Nodup) (h1 : ∀ y ∈ S1, Tb f y x) (h2 : ∀ y ∈ S2, Tb f x y) : msT f (L1 ++ [x]) = S1 ++ x :: S2 := by
 have hn1 : L1.Nodup := (List.nodup_append.1 hL).1
 have hv : Bu f (S1 ++ S2) := by rw [hs]; exact Cx hn1
 rw [← Nt hv h1 h2, hs]
 exact (Hr ((AP L1).append_right [x]) hL).symm
theorem WK {A S1 S2 L1 R B L : List Nat} {x : Nat} (hs : S1 ++ S2 = msT f L1) (hL : L = L1 ++ x :: R) : (A ++ (S1 ++ x :: (S2 ++ (R ++ B)))).Perm (A ++ (L ++ B)) := by
 subst hL
 refine List.Perm.append_left A ?_
 have h1 : (S1 ++ x :: S2).Perm (L1 ++ [x]) := by
  refine (List.perm_middle).trans ?_
  rw [hs]
  exact ((AP L1).cons x).trans (List.perm_append_singleton x L1).symm
 have := h1.append_right (R ++ B)
 simpa using this
end
theorem MW (P R : List Nat) (x y : Nat) {i : Nat} (hi : i = P.length) : swp (P ++ x :: y :: R) (i + 1) i = P ++ y :: x :: R := by
 subst hi
 have g1 : (P ++ x :: y :: R).getD P.length 0 = x := by simp [List.getD_eq_getElem?_getD]
 have g2 : (P ++ x :: y :: R).getD (P.length + 1) 0 = y := by
  rw [List.getD_eq_getElem?_getD, List.getElem?_append_right (by omega), show P.length + 1 - P.length = 1 by omega]; rfl
 unfold swp
 rw [g1, g2, List.set_append_right _ _ (by omega), show P.length + 1 - P.length = 1 by omega, List.set_cons_succ, List.set_cons_zero, List.set_append_right _ _ (Nat.le_refl _), Nat.sub_self, List.set_cons_zero]
theorem Ah2 (r : List Int) (n : Nat) (A B L : List Nat) (h0 : 0 < L.length) (hinc : L.Pairwise (· < ·)) (hm : ∀ k ∈ A ++ (L ++ B), k < r.length) (hn : (A ++ (L ++ B)).length = n) (hbig : n ≤ 1000000) {a b : Int} (ha : a = A.length) (hb : b = (A.length + L.length : Nat)) :
  Eff Tryz.prog UT 224 [DD n, .int .i64 a, .int .i64 b] (SO r n (A ++ (L ++ B))) (.tup []) (SO r n (A ++ (msT (fr r) L ++ B))) := by
 subst ha hb
 have hG := AC
 have hn0 := hn
 simp only [List.length_append] at hn
 have hnd : L.Nodup := hinc.imp fun h e => by omega
 obtain ⟨x0, L0, rfl⟩ := List.exists_cons_of_length_pos h0
 generalize hLL : x0 :: L0 = L at *
 refine Ws.e (by simp) fun C hN Q hQ => ?_
 have Z := Ws.R EFs hG hN
 refine Aa (Z 0 rfl ?_)
 simp only [go_sem, simprocAttr, EFs, tNo, SO, DD]
 refine Aa (Z 1 rfl ?_)
 simp only [go_sem, simprocAttr, inI, EFs, tNo, SO, DD]
 and_intros <;> try exact sdA
 refine Ad ?_
 refine Aj (α := (List Nat) × (List Nat)) (fun γ => (L = γ.1 ++ γ.2) ∧ (0 < γ.1.length)) (fun γ => ⟨mkE [(1, V.int IntKind.i64 ↑A.length), (2, V.int IntKind.i64 ↑(A.length + L.length)), (3, V.ptr 3 0), (6, .int .i64 (A.length + γ.1.length : Nat))], mkH [(3, Ob.box 253 [V.fn 145 [V.ptr 1000 0, V.ptr 1001 0], V.fn 219 [V.own 1003 n, V.pin hdl]]), (1000, Ob.box 204 [V.own 1002 r.length]), (1001, Ob.box 42 [V.own 1003 n]), (1002, Ob.arr 189 1 (Et r)), (1003, .arr 3 1 (Dw (A ++ (msT (fr r) γ.1 ++ (γ.2 ++ B)))))]⟩) (fun γ => γ.2.length) ([x0], L0) ⟨by rw [← hLL]; rfl, by simp⟩ ?_ ?_
 ·refine Le.mk _ _ ?_ ?_ rfl <;> simp only [go_sem, simprocAttr, msT, AaW] <;> and_intros <;> try exact leA
  rw [← hLL]; rfl
 rintro ⟨L1, R⟩ ⟨h1, h2⟩ KL0 hKL0
 try dsimp only at *
 refine Aa (Aa (Z 2 rfl ?_))
 simp only [go_sem, simprocAttr, EFs, tNo, SO, DD]
 refine Ab rfl (fun hc2 => ?_) fun hc2 => ?_
 ·simp only [hcL] at hc2
  refine Ac ?_
  refine Aa (Ad ?_)
  obtain ⟨x, R, rfl⟩ : ∃ x l, R = x :: l := List.exists_cons_of_length_pos (by have := congrArg List.length h1; rw [List.length_append] at this; omega)
  have hl := congrArg List.length h1
  simp only [List.length_append, List.length_cons] at hl
  have hlm : (msT (fr r) L1).length = L1.length := BW L1
  have hxy : ∀ y ∈ L1, y < x := fun y hy => by rw [h1] at hinc; exact (List.pairwise_append.1 hinc).2.2 y hy x (List.mem_cons_self ..)
  have hnx : (L1 ++ [x]).Nodup := by rw [h1, show L1 ++ x :: R = (L1 ++ [x]) ++ R by simp] at hnd; exact (List.nodup_append.1 hnd).1
  refine Aa (Z 4 rfl ?_)
  simp only [go_sem, simprocAttr, EFs, tNo, SO, DD]
  refine Ad ?_
  refine Aj (α := (List Nat) × (List Nat)) (fun γ => (γ.1 ++ γ.2 = msT (fr r) L1) ∧ (∀ y ∈ γ.2, Tb (fr r) x y)) (fun γ => ⟨mkE [(1, V.int IntKind.i64 ↑A.length), (2, V.int IntKind.i64 ↑(A.length + L.length)), (3, V.ptr 3 0), (6, V.int IntKind.i64 ↑(A.length + L1.length)), (7, .int .i64 (A.length + γ.1.length : Nat))], mkH [(3, Ob.box 253 [V.fn 145 [V.ptr 1000 0, V.ptr 1001 0], V.fn 219 [V.own 1003 n, V.pin hdl]]), (1000, Ob.box 204 [V.own 1002 r.length]), (1001, Ob.box 42 [V.own 1003 n]), (1002, Ob.arr 189 1 (Et r)), (1003, .arr 3 1 (Dw (A ++ (γ.1 ++ x :: (γ.2 ++ (R ++ B))))))]⟩) (fun γ => γ.1.length) (msT (fr r) L1, []) ⟨List.append_nil _, fun _ h => (by cases h)⟩ ?_ ?_
  ·refine Le.mk _ _ ?_ ?_ rfl <;> simp only [go_sem, simprocAttr, hlm] <;> and_intros <;> try exact leA
  rintro ⟨S1, S2⟩ ⟨g1, g2⟩ KL2 hKL2
  try dsimp only at *
  have gl := congrArg List.length g1
  rw [List.length_append, hlm] at gl
  have hgt : ((A.length : Int) < ((A.length + S1.length : Nat) : Int)) = (0 < S1.length) := propext ⟨fun h => by omega, fun h => by omega⟩
  refine Aa ?_
  by_cases hS : 0 < S1.length
  ·obtain ⟨S1, y, rfl⟩ : ∃ l y, S1 = l ++ [y] := ⟨S1.dropLast, S1.getLast (List.ne_nil_of_length_pos hS), (List.dropLast_concat_getLast _).symm⟩
   have hyL : y ∈ L1 := (AP L1).mem_iff.1 (by rw [← g1]; simp)
   have hcp := WK (A := A) (B := B) g1 h1
   have hSl : (S1 ++ [y]).length = S1.length + 1 := by simp
   simp only [List.length_append, List.length_cons, List.length_nil] at gl
   refine Aa (Z 5 rfl ?_)
   simp only [go_sem, simprocAttr, inI, EFs, tNo, SO, DD, hgt, hS, decide_true]
   and_intros <;> try exact sdA
   refine NB (d := A ++ ((S1 ++ [y]) ++ x :: (S2 ++ (R ++ B)))) (b := decide (fr r y < fr r x)) (A.length + S1.length + 1) (A.length + S1.length) ?_ ?_ ?_ (fun k hk => hm k (hcp.mem_iff.1 hk)) ?_ ?_ ?_ rfl rfl rfl ?_ ?_
   iterate 5 (· simp only [List.length_append, List.length_cons, List.length_nil]; omega)
   ·rw [show A ++ ((S1 ++ [y]) ++ x :: (S2 ++ (R ++ B))) = (A ++ S1) ++ y :: x :: (S2 ++ (R ++ B)) by simp]; simp only [List.getD_eq_getElem?_getD]; rw [List.getElem?_append_right (by simp), List.getElem?_append_right (by simp only [List.length_append]; omega)]; simp [Nat.add_sub_cancel_left, List.length_append]
   ·rfl
   simp only [go_sem, simprocAttr, EFs, SO]
   refine Ab rfl (fun hb5 => ?_) fun hb5 => ?_
   ·refine Ac ?_
    refine Aa (Ad ?_)
    have hlt2 : fr r y < fr r x := by simpa using hb5
    have hty : Tb (fr r) x y := (Tb.of_lt (hxy y hyL)).1.1 hlt2
    refine Z 7 rfl ?_
    simp only [go_sem, simprocAttr, inI, EFs, tNo, SO, DD]
    and_intros <;> try exact sdA
    refine MX (d := A ++ ((S1 ++ [y]) ++ x :: (S2 ++ (R ++ B)))) (d' := A ++ (S1 ++ x :: ((y :: S2) ++ (R ++ B)))) (A.length + S1.length + 1) (A.length + S1.length) ?_ ?_ ?_ ?_ ?_ ?_ rfl rfl rfl ?_ ?_
    iterate 5 (· simp only [List.length_append, List.length_cons, List.length_nil]; omega)
    ·have := MW (A ++ S1) (S2 ++ (R ++ B)) y x (i := A.length + S1.length) (by simp); simpa using this
    ·simp only [List.append_assoc, List.singleton_append, List.cons_append, List.nil_append]; rfl
    simp only [go_sem, simprocAttr, EFs, SO]
    refine Z 6 rfl ?_
    simp only [go_sem, simprocAttr, inI, EFs, tNo, SO, DD]
    and_intros <;> try exact sdA
    refine hKL2 (S1, y :: S2) _ ?_ ?_ ?_
    ·(try dsimp only); exact ⟨by rw [← g1]; simp, fun z hz => by rcases List.mem_cons.1 hz with rfl | hz; exact hty; exact g2 z hz⟩
    ·(try dsimp only); simp only [List.length_append, List.length_cons, List.length_nil]; omega
    refine Le.mk _ _ ?_ ?_ rfl <;> simp only [go_sem, simprocAttr, List.cons_append] <;> and_intros <;> try exact leA
    all_goals (try (simp only [List.length_append, List.length_cons, List.length_nil]; omega))
   have hlt2 : ¬ fr r y < fr r x := by simpa using hb5
   have hty : Tb (fr r) y x := (Tb.of_lt (hxy y hyL)).2.1 hlt2
   have hsrt : Bu (fr r) ((S1 ++ [y]) ++ S2) := by rw [g1]; exact Cx ((List.nodup_append.1 hnx).1)
   have hdone := NE g1 hnx (fun z hz => by rcases List.mem_append.1 hz with hz | hz; exact (hsrt.parts.1.parts.2.2 z hz y (by simp)).tr hty; rw [List.mem_singleton.1 hz]; exact hty) g2
   refine Ai ?_
   simp only [go_sem, simprocAttr]
   refine Z 3 rfl ?_
   simp only [go_sem, simprocAttr, inI, EFs, tNo, SO, DD]
   and_intros <;> try exact sdA
   refine hKL0 (L1 ++ [x], R) _ ?_ ?_ ?_
   ·(try dsimp only); exact ⟨by rw [h1]; simp, by simp⟩
   ·(try dsimp only); simp only [List.length_cons]; omega
   refine Le.mk _ _ ?_ ?_ rfl <;> simp only [go_sem, simprocAttr, List.length_append, List.length_cons, List.length_nil, hdone, List.append_assoc, List.cons_append, List.nil_append] <;> and_intros <;> try exact leA
   all_goals (try omega)
  have hdone := NE g1 hnx (fun z hz => absurd (List.length_pos_of_mem hz) hS) g2
  refine Aa (Z 5 rfl ?_)
  simp only [go_sem, simprocAttr, inI, EFs, tNo, SO, DD, hgt, hS, decide_false]
  and_intros <;> try exact sdA
  refine Be rfl ?_
  refine Ai ?_
  simp only [go_sem, simprocAttr]
  refine Z 3 rfl ?_
  simp only [go_sem, simprocAttr, inI, EFs, tNo, SO, DD]
  and_intros <;> try exact sdA
  refine hKL0 (L1 ++ [x], R) _ ?_ ?_ ?_
  ·(try dsimp only); exact ⟨by rw [h1]; simp, by simp⟩
  ·(try dsimp only); simp only [List.length_cons]; omega
  refine Le.mk _ _ ?_ ?_ rfl <;> simp only [go_sem, simprocAttr, List.length_append, List.length_cons, List.length_nil, hdone, List.append_assoc, List.cons_append, List.nil_append] <;> and_intros <;> try exact leA
  all_goals (try omega)
 simp only [hcL] at hc2
 have hl := congrArg List.length h1
 rw [List.length_append] at hl
 obtain rfl : R = [] := List.eq_nil_of_length_eq_zero (by omega)
 rw [List.append_nil] at h1
 subst h1
 refine Ai ?_
 simp only [go_sem, simprocAttr]
 show Q _ _
 refine hQ _ _ ⟨mkE [], mkH (SO r n (A ++ (msT (fr r) L ++ B)))⟩ (.inr rfl) (Le.mk _ _ ?_ ?_ rfl) rfl ?_ ?_ <;> simp only [go_sem, simprocAttr, SO, List.nil_append]
theorem Sf (r : List Int) (n : Nat) (d : List Nat) (hbig : n ≤ 1000000) {a : Int} (h0 : 0 ≤ a) (ha : a ≤ 1000000) :
  Eff Tryz.prog UT 224 [DD n, .int .i64 a, .int .i64 a] (SO r n d) (.tup []) (SO r n d) := by
 have hG := AC
 have hlt : (a + 1 < a) = False := eq_false (by omega)
 refine Ws.e (by simp) fun C hN Q hQ => ?_
 have Z := Ws.R EFs hG hN
 refine Aa (Z 0 rfl ?_)
 simp only [go_sem, simprocAttr, EFs, tNo, SO, DD]
 refine Aa (Z 1 rfl ?_)
 simp only [go_sem, simprocAttr, inI, EFs, tNo, SO, DD]
 and_intros <;> try exact sdA
 refine Ad ?_
 refine Aj (α := Unit) (fun u => (True)) (fun u => ⟨mkE [(1, V.int IntKind.i64 a), (2, V.int IntKind.i64 a), (3, V.ptr 3 0), (6, V.int IntKind.i64 (a + 1))], mkH [(3, Ob.box 253 [V.fn 145 [V.ptr 1000 0, V.ptr 1001 0], V.fn 219 [V.own 1003 n, V.pin hdl]]), (1000, Ob.box 204 [V.own 1002 r.length]), (1001, Ob.box 42 [V.own 1003 n]), (1002, Ob.arr 189 1 (Et r)), (1003, Ob.arr 3 1 (Dw d))]⟩) (fun u => 0) (()) trivial ?_ ?_
 ·exact leM
 rintro u hu KL0 hKL0
 try dsimp only at *
 refine Aa (Aa (Z 2 rfl ?_))
 simp only [go_sem, simprocAttr, hlt, EFs, tNo, SO, DD]
 refine Be rfl ?_
 refine Ai ?_
 simp only [go_sem, simprocAttr]
 show Q _ _
 refine hQ _ _ ⟨mkE [], mkH (SO r n d)⟩ (.inr rfl) (Le.mk _ _ ?_ ?_ rfl) rfl ?_ ?_ <;> simp only [go_sem, simprocAttr, SO]
end Go.Proofs.YtjkclhbckfkeeaaGreatDoor
end
