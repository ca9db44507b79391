/- The reference's share, weigh, greatest, size. -/
import Derived.Test.YtfjgnfgadkajnaaMo6
namespace Go.Proofs.Ytfjgnfgadkajnaa
open Go Go.RowKit
set_option linter.unusedSimpArgs false
set_option linter.unusedVariables false
set_option linter.deprecated false
theorem getD_i {l : List Int} {i : Nat} (h : i < l.length) : l.getD i 0 = l[i] := by rw [List.getD_eq_getElem?_getD, List.getElem?_eq_getElem h]; rfl
end Go.Proofs.Ytfjgnfgadkajnaa
/- Split of the reference: the same shares. -/
namespace Go.Proofs.Ytfjgnfgadkajnaa
open Go Go.RowKit
set_option linter.unusedSimpArgs false
set_option linter.unusedVariables false
set_option linter.deprecated false
/-- One more to each of these. -/
def giveS : List Nat → List Int → List Int
  | [], xs => xs
  | i :: os, xs => giveS os (xs.set i (xs.getD i 0 + 1))
theorem giveS_len : ∀ (O : List Nat) (xs : List Int), (giveS O xs).length = xs.length
  | [], _ => rfl
  | i :: O, xs => by rw [giveS, giveS_len O, List.length_set]
theorem giveAll_none (sg : Int) : ∀ (O : List Nat) (left : Int) (xs : List Int), left ≤ 0 → giveAll sg O left xs = xs
  | [], _, _, _ => rfl
  | i :: O, left, xs, h => by rw [giveAll, if_neg (by omega)]; exact giveAll_none sg O left xs h
theorem map_sg_set (sg : Int) (xs : List Int) (i : Nat) (hi : i < xs.length) : (xs.map fun q => sg * q).set i ((xs.map fun q => sg * q).getD i 0 + sg * 1) = (xs.set i (xs.getD i 0 + 1)).map fun q => sg * q := by
  rw [List.map_set]
  congr 1
  rw [getD_i (by rw [List.length_map]; exact hi), List.getElem_map, getD_i hi, Int.mul_add]
theorem giveAll_S (sg : Int) : ∀ (O : List Nat) (k : Nat) (xs : List Int), (∀ i ∈ O, i < xs.length) → k ≤ O.length → giveAll sg O k (xs.map fun q => sg * q) = (giveS (O.take k) xs).map fun q => sg * q
  | O, 0, xs, _, _ => by rw [giveAll_none _ _ _ _ (by omega)]; rfl
  | [], k + 1, xs, _, h => by simp at h
  | i :: O, k + 1, xs, h, hk => by
    rw [giveAll, if_pos (by omega), map_sg_set sg xs i (h i (List.mem_cons_self ..)), List.take_succ_cons, giveS, show ((k + 1 : Nat) : Int) - 1 = k by omega]
    exact giveAll_S sg O k _ (fun j hj => by rw [List.length_set]; exact h j (List.mem_cons_of_mem _ hj)) (by simpa using hk)
/-- What remains is less than the number of weights. -/
theorem left_lt {A S : Int} (hS : 0 < S) : ∀ {l : List Int}, A * l.sum = S * (qsP A S l).sum + (rsP A S l).sum ∧ 0 ≤ (rsP A S l).sum ∧ (rsP A S l).sum ≤ (l.length : Int) * (S - 1)
  | [] => by simp [qsP, rsP]
  | w :: l => by
    obtain ⟨h1, h2, h3⟩ := left_lt (A := A) hS (l := l)
    have e1 : (qsP A S (w :: l)).sum = A * w / S + (qsP A S l).sum := by simp [qsP]
    have e2 : (rsP A S (w :: l)).sum = A * w % S + (rsP A S l).sum := by simp [rsP]
    have m1 := Int.emod_nonneg (A * w) (show S ≠ 0 by omega)
    have m2 := Int.emod_lt_of_pos (A * w) hS
    have m3 := Int.mul_ediv_add_emod (A * w) S
    rw [e1, e2, List.sum_cons, Int.mul_add, Int.mul_add, List.length_cons]
    refine ⟨by omega, by omega, ?_⟩
    rw [show ((l.length + 1 : Nat) : Int) * (S - 1) = (l.length : Int) * (S - 1) + (S - 1) by rw [Int.natCast_add, Int.add_mul]; simp]
    omega
theorem left_bd {A S : Int} {l : List Int} (hS : 0 < S) (hsum : l.sum = S) (hl : 0 < l.length) : 0 ≤ A - (qsP A S l).sum ∧ A - (qsP A S l).sum < l.length := by
  obtain ⟨h1, h2, h3⟩ := left_lt (A := A) hS (l := l)
  rw [hsum] at h1
  have e : (A - (qsP A S l).sum) * S = (rsP A S l).sum := by rw [Int.sub_mul, Int.mul_comm (qsP A S l).sum S]; omega
  generalize A - (qsP A S l).sum = D at *
  refine ⟨?_, ?_⟩
  · by_cases c : D < 0
    · have : D * S < 0 := Int.mul_neg_of_neg_of_pos c hS
      omega
    · omega
  · refine Int.lt_of_mul_lt_mul_right (a := S) ?_ (by omega)
    have : (l.length : Int) * (S - 1) = (l.length : Int) * S - l.length := by rw [Int.mul_sub]; simp
    omega
end Go.Proofs.Ytfjgnfgadkajnaa
