/- Plain facts: digits of a number, and what a text of digits reads as. -/
import Derived.Lib.ItoaNum
import Derived.WalkKit
namespace Go.Proofs.YtejmfhbnbelklaaDoor
open Go

/-- n without its last i digits -/
def quo (n : Int) : Nat → Int
  | 0 => n
  | i + 1 => quo n i / 10
def dgt (n : Int) : UInt8 := UInt8.ofNat (48 + n % 10).toNat
/-- the last i digits of n -/
def dgs (n : Int) : Nat → List UInt8
  | 0 => []
  | i + 1 => dgt (quo n i) :: dgs n i
theorem quo_succ (n : Int) (i : Nat) : quo n (i + 1) = quo (n / 10) i := by
  induction i with
  | zero => rfl
  | succ i ih => rw [quo, ih, quo]
theorem quo_nonneg (n : Int) (h : 0 ≤ n) (i : Nat) : 0 ≤ quo n i ∧ quo n i ≤ n := by
  induction i with
  | zero => exact ⟨h, Int.le_refl _⟩
  | succ i ih => rw [quo]; omega
theorem dgs_snoc (n : Int) (i : Nat) : dgs n (i + 1) = dgs (n / 10) i ++ [dgt n] := by
  induction i with
  | zero => rfl
  | succ i ih => rw [dgs, ih, dgs, quo_succ]; rfl
theorem dgs_len (n : Int) (i : Nat) : (dgs n i).length = i := by
  induction i with
  | zero => rfl
  | succ i ih => rw [dgs, List.length_cons, ih]
def pad (k : Nat) (l : List UInt8) : List UInt8 := List.replicate (k - l.length) 48 ++ l
theorem pad_of_le (k : Nat) (l : List UInt8) (h : k ≤ l.length) : pad k l = l := by
  rw [pad, show k - l.length = 0 by omega]; rfl
theorem pad_cons (k : Nat) (l : List UInt8) (h : l.length < k) : pad k (48 :: l) = pad k l := by
  rw [pad, pad, List.length_cons, show k - l.length = (k - (l.length + 1)) + 1 by omega, List.replicate_succ']
  simp
theorem dgs_zero (i : Nat) : dgs 0 i = List.replicate i 48 := by
  induction i with
  | zero => rfl
  | succ i ih =>
    have hq : ∀ j, quo 0 j = 0 := by intro j; induction j with | zero => rfl | succ j ihj => rw [quo, ihj]; rfl
    rw [dgs, ih, hq, List.replicate_succ]; rfl
theorem pad_dec (k : Nat) : ∀ u : Nat, u < 10 ^ (k + 1) → pad (k + 1) (Lib.decDigits u) = dgs u (k + 1) := by
  induction k with
  | zero =>
    intro u h
    have h : u < 10 := by simpa using h
    rw [Lib.decDigits, dif_pos h]
    show [UInt8.ofNat (48 + u)] = [dgt u]
    unfold dgt
    congr 2
    omega
  | succ k ih =>
    intro u h
    have hd : dgt (u : Int) = UInt8.ofNat (48 + u % 10) := by unfold dgt; congr 1
    by_cases h10 : u < 10
    · rw [Lib.decDigits, dif_pos h10, dgs_snoc, show (u : Int) / 10 = 0 by omega, dgs_zero, hd]
      simp [pad, Nat.mod_eq_of_lt h10]
    · have := ih (u / 10) (by rw [Nat.pow_succ] at h; omega)
      rw [Lib.decDigits, dif_neg h10, dgs_snoc, show (u : Int) / 10 = ((u / 10 : Nat) : Int) by omega, hd, ← this]
      simp [pad]
theorem itoa_nat (u : Nat) : Lib.itoa (u : Int) = Lib.decDigits u := by
  simp [Lib.itoa]
theorem pad_itoa (k : Nat) (n : Int) (h0 : 0 ≤ n) (h : n < 10 ^ (k + 1)) : pad (k + 1) (Lib.itoa n) = dgs n (k + 1) := by
  obtain ⟨u, rfl⟩ := Int.eq_ofNat_of_zero_le h0
  rw [itoa_nat]
  exact pad_dec k u (by exact_mod_cast h)

/-- The number that the digits of a text make. -/
def val (n : Int) (l : List UInt8) : Int := l.foldl (fun n c => if 48 ≤ c ∧ c ≤ 57 then 10 * n + (c.toNat - 48 : Int) else n) n
theorem val_append (n : Int) (a b : List UInt8) : val n (a ++ b) = val (val n a) b := by simp [val, List.foldl_append]
theorem dgt_toNat (n : Int) : ((dgt n).toNat : Int) = 48 + n % 10 := by
  unfold dgt
  have : (48 + n % 10).toNat < 256 := by omega
  rw [UInt8.toNat_ofNat', Nat.mod_eq_of_lt this]
  omega
theorem dgt_dig (n : Int) : 48 ≤ dgt n ∧ dgt n ≤ 57 := by
  have := dgt_toNat n
  rw [UInt8.le_iff_toNat_le, UInt8.le_iff_toNat_le]
  constructor
  · show 48 ≤ (dgt n).toNat; omega
  · show (dgt n).toNat ≤ 57; omega
theorem val_dgt (a n : Int) : val a [dgt n] = 10 * a + n % 10 := by
  have h := dgt_dig n
  simp only [val, List.foldl_cons, List.foldl_nil]
  rw [if_pos h, dgt_toNat]; omega
theorem val_dgs (i : Nat) : ∀ n a : Int, 0 ≤ n → n < 10 ^ i → val a (dgs n i) = a * 10 ^ i + n := by
  induction i with
  | zero => intro n a h0 h; simp at h; simp [dgs, val]; omega
  | succ i ih =>
    intro n a h0 h
    rw [dgs_snoc, val_append, ih (n / 10) a (by omega) (by rw [Int.pow_succ] at h; omega), val_dgt, Int.pow_succ, Int.mul_add, ← Int.mul_assoc]
    rw [show 10 * a * 10 ^ i = a * (10 ^ i * 10) by rw [Int.mul_comm 10 a, Int.mul_assoc, Int.mul_comm 10]]
    omega
theorem val_bounds (l : List UInt8) : ∀ n : Int, 0 ≤ n → 0 ≤ val n l ∧ val n l < (n + 1) * 10 ^ l.length := by
  induction l with
  | nil => intro n h; simp [val]; omega
  | cons c l ih =>
    intro n h
    have hc : (c.toNat : Int) < 256 := by have := c.toNat_lt; omega
    have hs : val n (c :: l) = val (if 48 ≤ c ∧ c ≤ 57 then 10 * n + (c.toNat - 48 : Int) else n) l := rfl
    rw [hs]
    split
    · rename_i hd
      have h1 : 48 ≤ c.toNat := UInt8.le_iff_toNat_le.1 hd.1
      have h2 : c.toNat ≤ 57 := UInt8.le_iff_toNat_le.1 hd.2
      obtain ⟨a, b⟩ := ih (10 * n + (c.toNat - 48 : Int)) (by omega)
      refine ⟨a, Int.lt_of_lt_of_le b ?_⟩
      rw [List.length_cons, Int.pow_succ, Int.mul_comm (10 ^ l.length) 10, ← Int.mul_assoc]
      exact Int.mul_le_mul_of_nonneg_right (by omega) (Int.pow_nonneg (by omega))
    · obtain ⟨a, b⟩ := ih n h
      refine ⟨a, Int.lt_of_lt_of_le b ?_⟩
      rw [List.length_cons, Int.pow_succ, Int.mul_comm (10 ^ l.length) 10, ← Int.mul_assoc]
      exact Int.mul_le_mul_of_nonneg_right (by omega) (Int.pow_nonneg (by omega))

theorem ba_app (a b : List UInt8) : (⟨a.toArray⟩ : ByteArray) ++ ⟨b.toArray⟩ = ⟨(a ++ b).toArray⟩ := by
  apply ByteArray.ext
  simp
theorem ba_size (l : List UInt8) : (⟨l.toArray⟩ : ByteArray).size = l.length := by simp [ByteArray.size]
theorem str_eq {a b : ByteArray} (h : a = b) : Value.string a = .string b := by rw [h]
theorem str_app (a b c : List UInt8) (h : a ++ b = c) : Value.string ((⟨a.toArray⟩ : ByteArray) ++ ⟨b.toArray⟩) = .string ⟨c.toArray⟩ := by rw [ba_app, h]
end Go.Proofs.YtejmfhbnbelklaaDoor
