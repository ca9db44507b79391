/- Split of the reference: the same shares. -/
import Derived.Test.YtdjeodopibaebaaDoorMo7
namespace Go.Proofs.YtdjeodopibaebaaDoor
open Go Go.RowKit
set_option linter.unusedSimpArgs false
set_option linter.unusedVariables false
set_option linter.deprecated false
/-- One more to each of these. -/
def giveS : List Nat → List Int → List Int
  | [], xs => xs
  | i :: os, xs => giveS os (xs.set i (xs.getD i 0 + 1))
theorem giveS_len : ∀ (O : List Nat) (xs : List Int), (giveS O xs).length = xs.length
  | [], _ => rfl
  | i :: O, xs => by rw [giveS, giveS_len O, List.length_set]
theorem giveAll_none (sg : Int) : ∀ (O : List Nat) (left : Int) (xs : List Int), left ≤ 0 → giveAll sg O left xs = xs
  | [], _, _, _ => rfl
  | i :: O, left, xs, h => by rw [giveAll, if_neg (by omega)]; exact giveAll_none sg O left xs h
theorem map_sg_set (sg : Int) (xs : List Int) (i : Nat) (hi : i < xs.length) : (xs.map fun q => sg * q).set i ((xs.map fun q => sg * q).getD i 0 + sg * 1) = (xs.set i (xs.getD i 0 + 1)).map fun q => sg * q := by
  rw [List.map_set]
  congr 1
  rw [getD_i (by rw [List.length_map]; exact hi), List.getElem_map, getD_i hi, Int.mul_add]
theorem giveAll_S (sg : Int) : ∀ (O : List Nat) (k : Nat) (xs : List Int), (∀ i ∈ O, i < xs.length) → k ≤ O.length → giveAll sg O k (xs.map fun q => sg * q) = (giveS (O.take k) xs).map fun q => sg * q
  | O, 0, xs, _, _ => by rw [giveAll_none _ _ _ _ (by omega)]; rfl
  | [], k + 1, xs, _, h => by simp at h
  | i :: O, k + 1, xs, h, hk => by
    rw [giveAll, if_pos (by omega), map_sg_set sg xs i (h i (List.mem_cons_self ..)), List.take_succ_cons, giveS, show ((k + 1 : Nat) : Int) - 1 = k by omega]
    exact giveAll_S sg O k _ (fun j hj => by rw [List.length_set]; exact h j (List.mem_cons_of_mem _ hj)) (by simpa using hk)
/-- What the reference does with what remains. -/
def pickR : Nat → List Int → List Int → List Int
  | 0, _, xs => xs
  | k + 1, rs, xs => pickR k (rs.set (maxAt rs) (-1)) (xs.set (maxAt rs) (xs.getD (maxAt rs) 0 + 1))
/-- The rests when some were taken. -/
def Taken (R rs : List Int) (O : List Nat) : Prop := rs.length = R.length ∧ ∀ j, j < R.length → rs.getD j 0 = if j ∈ O then R.getD j 0 else -1
theorem pickR_S {R : List Int} (hR : ∀ x ∈ R, 0 ≤ x) : ∀ (O : List Nat) (k : Nat) (rs xs : List Int), SortT (fr R) O → (∀ i ∈ O, i < R.length) → Taken R rs O → k ≤ O.length → pickR k rs xs = giveS (O.take k) xs
  | O, 0, rs, xs, _, _, _, _ => rfl
  | [], k + 1, rs, xs, _, _, _, h => by simp at h
  | i :: O, k + 1, rs, xs, hs, hO, hT, hk => by
    obtain ⟨s1, s2⟩ := List.pairwise_cons.1 hs
    have hi := hO i (List.mem_cons_self ..)
    have h0 : 0 ≤ R.getD i 0 := by rw [getD_i hi]; exact hR _ (List.getElem_mem hi)
    have hval : ∀ j, j < R.length → rs.getD j 0 ≤ R.getD i 0 ∧ (j < i → rs.getD j 0 < R.getD i 0) := fun j hj => by
      rw [hT.2 j hj]
      by_cases c : j ∈ i :: O
      · rw [if_pos c]
        rcases List.mem_cons.1 c with rfl | c
        · exact ⟨Int.le_refl _, fun h => by omega⟩
        · have := s1 j c
          unfold Tb fr at this
          exact ⟨by omega, fun h => by omega⟩
      · rw [if_neg c]; exact ⟨by omega, fun _ => by omega⟩
    have hii : rs.getD i 0 = R.getD i 0 := by rw [hT.2 i hi, if_pos (List.mem_cons_self ..)]
    have hmax : IsMax rs rs.length i := ⟨fun j hj => by rw [hii]; exact (hval j (hT.1 ▸ hj)).1, fun j hj => by rw [hii]; exact (hval j (by omega)).2 hj⟩
    obtain ⟨m1, m2⟩ := maxAt_spec rs
    have hm : maxAt rs = i := isMax_un (l := rs) (n := rs.length) (by have := hT.1; omega) (by have := hT.1; omega) m1 hmax
    rw [pickR, hm, List.take_succ_cons, giveS]
    have hni : i ∉ O := fun h => Tb.irr (s1 i h)
    refine pickR_S hR O k _ _ s2 (fun j hj => hO j (List.mem_cons_of_mem _ hj)) ⟨by rw [List.length_set]; exact hT.1, fun j hj => ?_⟩ (by simpa using hk)
    rw [List.getD_eq_getElem?_getD, List.getElem?_set]
    by_cases c : i = j
    · subst c
      rw [if_pos rfl, if_pos (by have := hT.1; omega), if_neg hni]; rfl
    · rw [if_neg c, ← List.getD_eq_getElem?_getD, hT.2 j hj]
      by_cases c2 : j ∈ O
      · rw [if_pos c2, if_pos (List.mem_cons_of_mem _ c2)]
      · rw [if_neg c2, if_neg (fun h => by rcases List.mem_cons.1 h with h | h; exact c h.symm; exact c2 h)]
/-- What remains is less than the number of weights. -/
theorem left_lt {A S : Int} (hS : 0 < S) : ∀ {l : List Int}, A * l.sum = S * (qsP A S l).sum + (rsP A S l).sum ∧ 0 ≤ (rsP A S l).sum ∧ (rsP A S l).sum ≤ (l.length : Int) * (S - 1)
  | [] => by simp [qsP, rsP]
  | w :: l => by
    obtain ⟨h1, h2, h3⟩ := left_lt (A := A) hS (l := l)
    have e1 : (qsP A S (w :: l)).sum = A * w / S + (qsP A S l).sum := by simp [qsP]
    have e2 : (rsP A S (w :: l)).sum = A * w % S + (rsP A S l).sum := by simp [rsP]
    have m1 := Int.emod_nonneg (A * w) (show S ≠ 0 by omega)
    have m2 := Int.emod_lt_of_pos (A * w) hS
    have m3 := Int.mul_ediv_add_emod (A * w) S
    rw [e1, e2, List.sum_cons, Int.mul_add, Int.mul_add, List.length_cons]
    refine ⟨by omega, by omega, ?_⟩
    rw [show ((l.length + 1 : Nat) : Int) * (S - 1) = (l.length : Int) * (S - 1) + (S - 1) by rw [Int.natCast_add, Int.add_mul]; simp]
    omega
theorem left_bd {A S : Int} {l : List Int} (hS : 0 < S) (hsum : l.sum = S) (hl : 0 < l.length) : 0 ≤ A - (qsP A S l).sum ∧ A - (qsP A S l).sum < l.length := by
  obtain ⟨h1, h2, h3⟩ := left_lt (A := A) hS (l := l)
  rw [hsum] at h1
  have e : (A - (qsP A S l).sum) * S = (rsP A S l).sum := by rw [Int.sub_mul, Int.mul_comm (qsP A S l).sum S]; omega
  generalize A - (qsP A S l).sum = D at *
  refine ⟨?_, ?_⟩
  · by_cases c : D < 0
    · have : D * S < 0 := Int.mul_neg_of_neg_of_pos c hS
      omega
    · omega
  · refine Int.lt_of_mul_lt_mul_right (a := S) ?_ (by omega)
    have : (l.length : Int) * (S - 1) = (l.length : Int) * S - l.length := by rw [Int.mul_sub]; simp
    omega
/-- The shares, as the reference makes them. -/
theorem shares_ref {a S : Int} {l : List Int} (hS : 0 < S) (hsum : l.sum = S) (hl : 0 < l.length) :
    sharesM a S l = (pickR ((a.natAbs : Int) - (qsP a.natAbs S l).sum).toNat (rsP a.natAbs S l) (qsP a.natAbs S l)).map fun q => sgn a * q := by
  obtain ⟨b1, b2⟩ := left_bd (A := (a.natAbs : Int)) hS hsum hl
  obtain ⟨k, hk⟩ := Int.eq_ofNat_of_zero_le b1
  have hlR : (rsP a.natAbs S l).length = l.length := List.length_map _
  have hlQ : (qsP a.natAbs S l).length = l.length := List.length_map _
  generalize hO : msT (fr (rsP a.natAbs S l)) (List.range' 0 l.length) = O
  have hOp : O.Perm (List.range' 0 l.length) := hO ▸ msT_perm _
  have hOl : O.length = l.length := by rw [hOp.length_eq, List.length_range']
  have hOs : SortT (fr (rsP a.natAbs S l)) O := hO ▸ msT_sort (rng_nodup _ _)
  have hOm : ∀ i ∈ O, i < l.length := fun i hi => by have := rng_mem (hOp.mem_iff.1 hi); omega
  unfold sharesM
  rw [hO, hk, Int.toNat_natCast, giveAll_S _ O k _ (fun i hi => by rw [hlQ]; exact hOm i hi) (by omega)]
  rw [pickR_S (R := rsP a.natAbs S l) (fun x hx => by obtain ⟨w, _, rfl⟩ := List.mem_map.1 hx; exact Int.emod_nonneg _ (by omega)) O k _ _ hOs (fun i hi => by rw [hlR]; exact hOm i hi) ⟨rfl, fun j hj => by rw [if_pos (hOp.mem_iff.2 (by rw [List.mem_range'_1]; omega))]⟩ (by omega)]
end Go.Proofs.YtdjeodopibaebaaDoor
