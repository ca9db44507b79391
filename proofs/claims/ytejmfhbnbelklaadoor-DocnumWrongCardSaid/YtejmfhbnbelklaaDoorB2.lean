/- Plain facts on ticket numbers: parts, texts, one wrong digit. -/
import Derived.Test.YtejmfhbnbelklaaDoorA8
namespace Go.Proofs.YtejmfhbnbelklaaDoor
open Go Go.RowKit
theorem mk_div (c s : Int) : mk c s / 10 = c * 10000000000 + s := by
  unfold mk
  generalize c * 10000000000 + s = m
  omega
theorem mk_mod (c s : Int) : mk c s % 10 = (c * 10000000000 + s) % 7 := by
  unfold mk
  generalize c * 10000000000 + s = m
  omega
theorem isT_mk {c s : Int} (h : mkB c s = true) : isT (mk c s) = true := by
  obtain ⟨a, b, d, e⟩ := mkB_yes h
  have h1 := mk_div c s
  have h2 := mk_mod c s
  have : 100000000000 ≤ mk c s ∧ mk c s < 100000000000000 ∧ mk c s % 10 = mk c s / 10 % 7 := by
    rw [h1, h2]
    generalize mk c s = n at *
    omega
  simp [isT, this]
theorem car_mk {c s : Int} (h : mkB c s = true) : car (mk c s) = c := by
  obtain ⟨a, b, d, e⟩ := mkB_yes h
  rw [car, if_pos (isT_mk h), mk_div]; omega
theorem ser_mk {c s : Int} (h : mkB c s = true) : ser (mk c s) = s := by
  obtain ⟨a, b, d, e⟩ := mkB_yes h
  rw [ser, if_pos (isT_mk h), mk_div]; omega
theorem prt_len (n : Int) : (prt n).length = 16 := by simp [prt, dgs_len]
theorem val_dash (a : Int) : val a [45] = a := by
  simp only [val, List.foldl_cons, List.foldl_nil]; rw [if_neg (by decide)]
theorem val_prt {n : Int} (h : isT n = true) : val 0 (prt n) = n := by
  obtain ⟨a, b, c⟩ := isT_yes h
  rw [prt, val_append, val_append, val_append, val_append, val_dash, val_dash]
  rw [val_dgs 3 _ _ (by omega) (by omega), val_dgs 10 _ _ (by omega) (by omega), val_dgs 1 _ _ (by omega) (by omega)]
  omega
theorem prs_prt {n : Int} (h : isT n = true) : prsB (prt n) = true := by simp [prsB, prt_len, val_prt h, h]
theorem wrong_check (n d : Int) (h : n % 10 = n / 10 % 7) (hd : d ≠ 0) (h0 : 0 ≤ n % 10 + d) (h9 : n % 10 + d < 10) : ¬ ((n + d * 1) % 10 = (n + d * 1) / 10 % 7) := by
  have e1 : (n + d * 1) / 10 = n / 10 := by omega
  have e2 : (n + d * 1) % 10 = n % 10 + d := by omega
  rw [e1, e2]; omega
theorem wrong_at (q d P : Int) (hP : P % 7 = 1 ∨ P % 7 = 2 ∨ P % 7 = 3 ∨ P % 7 = 4 ∨ P % 7 = 5 ∨ P % 7 = 6) (hd : -9 ≤ d ∧ d ≤ 9) (hd0 : d ≠ 0) (h7 : d ≠ 7) (h7' : d ≠ -7) : (q + d * P) % 7 ≠ q % 7 := by
  have e : (q + d * P) % 7 = (q % 7 + d * (P % 7)) % 7 := by
    rw [Int.add_emod, Int.mul_emod]
    have := Int.mul_emod d (P % 7) 7
    rw [Int.emod_emod_of_dvd _ (by omega : (7 : Int) ∣ 7)] at this
    rw [← this, ← Int.add_emod_emod]
    omega
  rw [e]
  rcases hP with h | h | h | h | h | h <;> rw [h] <;> omega
/-- what one wrong digit does -/
theorem wrong_digit (n p was is : Int) (hn : isT n = true) (hp : p = 1 ∨ ∃ P, p = P * 10 ∧ 0 < P ∧ (P % 7 = 1 ∨ P % 7 = 2 ∨ P % 7 = 3 ∨ P % 7 = 4 ∨ P % 7 = 5 ∨ P % 7 = 6))
    (hw : was = n / p % 10) (hi : 0 ≤ is ∧ is < 10) (hne : was ≠ is) (h7 : p = 1 ∨ ¬ (is - was = 7 ∨ was - is = 7)) : isT (n + (is - was) * p) = false := by
  obtain ⟨a, b, c⟩ := isT_yes hn
  cases hT : isT (n + (is - was) * p)
  · rfl
  · obtain ⟨a', b', c'⟩ := isT_yes hT
    exfalso
    rcases hp with rfl | ⟨P, rfl, hP, hm⟩
    · rw [Int.ediv_one] at hw
      exact wrong_check n (is - was) c (by omega) (by omega) (by omega) c'
    · have hw9 : 0 ≤ was ∧ was ≤ 9 := by omega
      have h10 : P * 10 ≠ 1 := by omega
      have h7' := h7.resolve_left h10
      rw [← Int.mul_assoc] at c'
      have e1 : (n + (is - was) * P * 10) / 10 = n / 10 + (is - was) * P := by omega
      have e2 : (n + (is - was) * P * 10) % 10 = n % 10 := by omega
      rw [e1, e2, c] at c'
      exact wrong_at (n / 10) (is - was) P hm (by omega) (by omega) (by omega) (by omega) c'.symm
end Go.Proofs.YtejmfhbnbelklaaDoor
