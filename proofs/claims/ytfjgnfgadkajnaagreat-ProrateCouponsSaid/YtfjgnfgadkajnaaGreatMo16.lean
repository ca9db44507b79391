/- The shares: plain law. -/
import Derived.Test.YtfjgnfgadkajnaaGreatMo9
namespace Go.Proofs.YtfjgnfgadkajnaaGreat
open Go Go.RowKit
set_option linter.unusedSimpArgs false
set_option linter.unusedVariables false
set_option linter.deprecated false
theorem set_sum1 : ∀ (xs : List Int) (j : Nat), j < xs.length → (xs.set j (xs.getD j 0 + 1)).sum = xs.sum + 1
  | x :: xs, 0, _ => by simp; omega
  | x :: xs, j + 1, h => by
    have := set_sum1 xs j (by simpa using h)
    rw [List.set_cons_succ, List.sum_cons, List.sum_cons, List.getD_cons_succ, this]; omega
theorem giveS_sum : ∀ (T : List Nat) (xs : List Int), (∀ j ∈ T, j < xs.length) → (giveS T xs).sum = xs.sum + T.length
  | [], xs, _ => by simp [giveS]
  | i :: T, xs, h => by
    rw [giveS, giveS_sum T _ (fun j hj => by rw [List.length_set]; exact h j (List.mem_cons_of_mem _ hj)), set_sum1 xs i (h i (List.mem_cons_self ..)), List.length_cons]; omega
theorem giveS_at : ∀ (T : List Nat) (xs : List Int) (i : Nat), i < xs.length → (giveS T xs).getD i 0 = xs.getD i 0 + (T.count i : Int)
  | [], xs, i, _ => by simp [giveS]
  | j :: T, xs, i, h => by
    rw [giveS, giveS_at T _ i (by rw [List.length_set]; exact h), List.count_cons]
    by_cases c : j = i
    · subst c
      rw [getD_i (by rw [List.length_set]; exact h), List.getElem_set_self]; simp; omega
    · rw [getD_i (by rw [List.length_set]; exact h), List.getElem_set_ne c, ← getD_i h, if_neg (by simpa using c)]; simp
theorem perm_sum {a b : List Int} (h : a.Perm b) : a.sum = b.sum := by
  induction h with
  | nil => rfl
  | cons x _ ih => rw [List.sum_cons, List.sum_cons, ih]
  | swap x y l => simp only [List.sum_cons]; omega
  | trans _ _ i1 i2 => rw [i1, i2]
theorem map_fr (R : List Int) : (List.range' 0 R.length).map (fr R) = R := by
  apply List.ext_getElem
  · simp
  · intro i h1 h2
    rw [List.getElem_map, List.getElem_range', fr]
    simp only [Nat.zero_add, Nat.one_mul]
    exact getD_i h2
theorem sum_leB {B : Int} : ∀ {l : List Int}, (∀ x ∈ l, x ≤ B) → l.sum ≤ B * l.length
  | [], _ => by simp
  | x :: l, h => by
    have := sum_leB (l := l) fun y hy => h y (List.mem_cons_of_mem _ hy)
    have := h x (List.mem_cons_self ..)
    rw [List.sum_cons, List.length_cons, Int.natCast_add, Int.mul_add]; simp; omega
/-- The amounts without their sign. -/
def gS (A S : Int) (l : List Int) : List Int := giveS ((msT (fr (rsP A S l)) (List.range' 0 l.length)).take (A - (qsP A S l).sum).toNat) (qsP A S l)
theorem gS_facts {A S : Int} {l : List Int} (hA : 0 ≤ A) (hS : 0 < S) (hsum : l.sum = S) (hl : 0 < l.length) (hnn : ∀ w ∈ l, 0 ≤ w) :
    (gS A S l).length = l.length ∧ (gS A S l).sum = A ∧ (∀ i, i < l.length → 0 ≤ (gS A S l).getD i 0 ∧ (l.getD i 0 = 0 → (gS A S l).getD i 0 = 0)) ∧
    (0 < A → ∀ i k, i < l.length → k < l.length → l.getD k 0 < l.getD i 0 → (gS A S l).getD k 0 ≤ (gS A S l).getD i 0) := by
  obtain ⟨b1, b2⟩ := left_bd (A := A) hS hsum hl
  obtain ⟨k, hk⟩ := Int.eq_ofNat_of_zero_le b1
  have hlR : (rsP A S l).length = l.length := List.length_map _
  have hlQ : (qsP A S l).length = l.length := List.length_map _
  have hl3 := (left_lt (A := A) hS (l := l)).1
  unfold gS
  rw [hk, Int.toNat_natCast]
  obtain ⟨R, hR⟩ : ∃ R, R = rsP A S l := ⟨_, rfl⟩
  obtain ⟨Q, hQ⟩ : ∃ Q, Q = qsP A S l := ⟨_, rfl⟩
  have hRi : ∀ i, i < l.length → R.getD i 0 = A * l.getD i 0 % S := fun i hi => by rw [getD_i (by rw [hR, hlR]; exact hi), getD_i hi]; simp [hR, rsP]
  have hQi : ∀ i, i < l.length → Q.getD i 0 = A * l.getD i 0 / S := fun i hi => by rw [getD_i (by rw [hQ, hlQ]; exact hi), getD_i hi]; simp [hQ, qsP]
  rw [← hR, ← hQ]
  rw [← hR] at hlR hl3
  rw [← hQ] at hlQ hl3 hk b1 b2
  obtain ⟨O, hO⟩ : ∃ O, O = msT (fr R) (List.range' 0 l.length) := ⟨_, rfl⟩
  rw [← hO]
  have hOp : O.Perm (List.range' 0 l.length) := hO ▸ msT_perm _
  have hOl : O.length = l.length := by rw [hOp.length_eq, List.length_range']
  have hOs : SortT (fr R) O := hO ▸ msT_sort (rng_nodup _ _)
  have hOm : ∀ i ∈ O, i < l.length := fun i hi => by have := rng_mem (hOp.mem_iff.1 hi); omega
  obtain ⟨T, hT⟩ : ∃ T, T = O.take k := ⟨_, rfl⟩
  obtain ⟨D, hD⟩ : ∃ D, D = O.drop k := ⟨_, rfl⟩
  have hTD : O = T ++ D := by rw [hT, hD, List.take_append_drop]
  have hTl : T.length = k := by rw [hT, List.length_take]; omega
  have hRb : ∀ i, i < l.length → 0 ≤ R.getD i 0 ∧ R.getD i 0 ≤ S - 1 := fun i hi => by
    rw [hRi i hi]
    have := Int.emod_nonneg (A * l.getD i 0) (show S ≠ 0 by omega)
    have := Int.emod_lt_of_pos (A * l.getD i 0) hS
    omega
  rw [← hT]
  rw [hTD] at hOs hOm
  obtain ⟨_, _, hbf⟩ := hOs.parts
  have hTn : T.Nodup := by
    have := SortT.nodup hOs
    exact (List.nodup_append.1 this).1
  have hc1 : ∀ i, T.count i ≤ 1 := fun i => List.nodup_iff_count.1 hTn i
  have hG : ∀ i, i < l.length → (giveS T Q).getD i 0 = Q.getD i 0 + (T.count i : Int) := fun i hi => giveS_at T Q i (by omega)
  have hli : ∀ i, i < l.length → 0 ≤ l.getD i 0 := fun i hi => by rw [getD_i hi]; exact hnn _ (List.getElem_mem hi)
  refine ⟨by rw [giveS_len, hlQ], ?_, fun i hi => ⟨?_, fun h0 => ?_⟩, fun h0 i k2 hi hk2 hw => ?_⟩
  · rw [giveS_sum _ _ (fun j hj => by rw [hlQ]; exact hOm j (List.mem_append_left _ hj)), hTl]; omega
  · rw [hG i hi, hQi i hi]
    have := Int.ediv_nonneg (Int.mul_nonneg hA (hli i hi)) (show 0 ≤ S by omega)
    omega
  · rw [hG i hi, hQi i hi, h0, Int.mul_zero, Int.zero_ediv]
    have : ¬ i ∈ T := fun hiT => by
      have hRi0 : fr R i = 0 := by show R.getD i 0 = 0; rw [hRi i hi, h0]; simp
      have hD0 : (D.map (fr R)).sum ≤ 0 * ((D.map (fr R)).length : Int) := sum_leB fun x hx => by
        obtain ⟨y, hy, rfl⟩ := List.mem_map.1 hx
        have := hbf i hiT y hy
        unfold Tb at this
        omega
      have hT0 : (T.map (fr R)).sum ≤ (S - 1) * ((T.map (fr R)).length : Int) := sum_leB fun x hx => by
        obtain ⟨y, hy, rfl⟩ := List.mem_map.1 hx
        exact (hRb y (hOm y (List.mem_append_left _ hy))).2
      have hs : R.sum = (T.map (fr R)).sum + (D.map (fr R)).sum := by
        rw [← List.sum_append, ← List.map_append, ← hTD, perm_sum (hOp.map (fr R)), ← hlR, map_fr]
      rw [List.length_map, hTl, Int.sub_mul] at hT0
      rw [hsum] at hl3
      have h1 : A * S = S * Q.sum + S * (k : Int) := by rw [← Int.mul_add, Int.mul_comm A S]; congr 1; omega
      have : 1 ≤ T.length := List.length_pos_of_mem hiT
      omega
    rw [List.count_eq_zero_of_not_mem this]; rfl
  · rw [hG i hi, hG k2 hk2, hQi i hi, hQi k2 hk2]
    have hm : A * l.getD k2 0 ≤ A * l.getD i 0 := Int.mul_le_mul_of_nonneg_left (by omega) (by omega)
    have hm2 : A * l.getD k2 0 < A * l.getD i 0 := Int.mul_lt_mul_of_pos_left hw h0
    have hq := Int.ediv_le_ediv hS hm
    have e1 := Int.mul_ediv_add_emod (A * l.getD i 0) S
    have e2 := Int.mul_ediv_add_emod (A * l.getD k2 0) S
    have c1 := hc1 i
    have c2 := hc1 k2
    by_cases c : A * l.getD k2 0 / S = A * l.getD i 0 / S
    · rw [c] at e2 ⊢
      rw [← hRi i hi] at e1
      rw [← hRi k2 hk2] at e2
      have hr : fr R k2 < fr R i := by show R.getD k2 0 < R.getD i 0; omega
      by_cases ck : k2 ∈ T
      · have ci : i ∈ T := by
          have : i ∈ T ++ D := by rw [← hTD]; exact hOp.mem_iff.2 (by rw [List.mem_range'_1]; omega)
          rcases List.mem_append.1 this with h | h
          · exact h
          · have := hbf k2 ck i h
            unfold Tb at this
            omega
        have := List.count_pos_iff.2 ci
        omega
      · have := List.count_eq_zero_of_not_mem ck
        omega
    · omega
theorem sharesM_gS {a S : Int} {l : List Int} (hS : 0 < S) (hsum : l.sum = S) (hl : 0 < l.length) : sharesM a S l = (gS a.natAbs S l).map fun q => sgn a * q := by
  obtain ⟨b1, b2⟩ := left_bd (A := (a.natAbs : Int)) hS hsum hl
  obtain ⟨k, hk⟩ := Int.eq_ofNat_of_zero_le b1
  have hlQ : (qsP a.natAbs S l).length = l.length := List.length_map _
  have hOp := msT_perm (f := fr (rsP a.natAbs S l)) (List.range' 0 l.length)
  unfold sharesM gS
  rw [hk, Int.toNat_natCast, giveAll_S _ _ k _ (fun i hi => by have := rng_mem (hOp.mem_iff.1 hi); omega) (by rw [hOp.length_eq, List.length_range']; omega)]
/-- What is known of the shares. -/
structure ShF (a : Int) (l L : List Int) : Prop where
  bd : -1099511627776 ≤ a ∧ a ≤ 1099511627776
  len : L.length = l.length
  sum : L.sum = a
  sg : ∀ i (h : i < L.length), (0 ≤ a → 0 ≤ L[i]) ∧ (a ≤ 0 → L[i] ≤ 0)
  zero : ∀ i (h : i < L.length) (h' : i < l.length), l[i] = 0 → L[i] = 0
  mono : 0 < a → ∀ i k (h : i < L.length) (hk : k < L.length) (h' : i < l.length) (hk' : k < l.length), l[k] < l[i] → L[k] ≤ L[i]
  neg : splitM (-a) l = (0, L.map fun x => -x)
theorem spl_facts {a e : Int} {l L : List Int} (h : splitM a l = (e, L)) : (e ≠ 0 → L = []) ∧ (e = 0 → ShF a l L) := by
  unfold splitM at h
  obtain ⟨⟨S, e0⟩, htr⟩ : ∃ y, totR 0 l = y := ⟨_, rfl⟩
  rw [htr] at h
  split at h
  · injection h with h1 h2; subst h1 h2; exact ⟨fun _ => rfl, fun h => by omega⟩
  · rename_i he
    split at h
    · injection h with h1 h2; subst h1 h2; exact ⟨fun _ => rfl, fun h => by omega⟩
    · rename_i hf
      injection h with h1 h2
      subst h1
      refine ⟨fun h => absurd rfl h, fun _ => ?_⟩
      obtain rfl : e0 = 0 := by simpa using he
      have hfa : fitB a = true := by cases h : fitB a with | true => rfl | false => exact absurd (.inl h) hf
      have hfS : S ≤ 1099511627776 := by have : ¬ 1099511627776 < S := fun h => hf (.inr h); omega
      obtain ⟨hnn, hsum, hS0⟩ := tot_ok htr hfS (Int.le_refl 0)
      rw [Int.zero_add] at hsum
      have hl : 0 < l.length := by cases l with | nil => (simp at hsum; omega) | cons x l => simp
      have hb := (fits_iff a).1 hfa
      replace h2 : sharesM a S l = L := h2
      rw [sharesM_gS hS0 hsum hl] at h2
      obtain ⟨g1, g2, g3, g4⟩ := gS_facts (A := (a.natAbs : Int)) (by omega) hS0 hsum hl hnn
      have hng : splitM (-a) l = (0, (gS a.natAbs S l).map fun q => sgn (-a) * q) := by
        unfold splitM
        have hfn : fitB (-a) = true := (fits_iff (-a)).2 (by omega)
        rw [htr]
        dsimp only
        rw [if_neg (by simp), if_neg (by rw [hfn]; simp; omega), sharesM_gS hS0 hsum hl, Int.natAbs_neg]
      have hL : L.length = l.length := by rw [← h2, List.length_map, g1]
      have hLi : ∀ i (hi : i < L.length), L[i] = sgn a * (gS a.natAbs S l).getD i 0 := fun i hi => by
        subst h2; rw [List.getElem_map, getD_i (by simpa using hi)]
      have hle : ∀ i, i < l.length → (gS a.natAbs S l).getD i 0 ≤ (a.natAbs : Int) := fun i hi => by
        refine Int.le_trans (mem_le_sum (fun w hw => ?_) _ (by rw [getD_i (by omega)]; exact List.getElem_mem _)) (Int.le_of_eq g2)
        obtain ⟨j, hj, rfl⟩ := List.mem_iff_getElem.1 hw
        rw [← getD_i hj]; exact (g3 j (by omega)).1
      have hms : ∀ (s : Int) (xs : List Int), (xs.map fun q => s * q).sum = s * xs.sum := fun s xs => by
        induction xs with
        | nil => simp
        | cons x xs ih => rw [List.map_cons, List.sum_cons, List.sum_cons, ih, Int.mul_add]
      refine ⟨hb, hL, ?_, fun i hi => ?_, fun i hi hi' h0 => ?_, fun h0 i k hi hk hi' hk' hw => ?_, ?_⟩
      · rw [← h2, hms, g2]; unfold sgn; split <;> omega
      · rw [hLi i hi]
        have := (g3 i (by omega)).1
        refine ⟨fun h => ?_, fun h => ?_⟩
        · unfold sgn; rw [if_neg (by omega)]; omega
        · by_cases c : a = 0
          · have h8 := hle i (by omega)
            rw [show (gS (a.natAbs : Int) S l).getD i 0 = 0 by omega]; simp
          · unfold sgn; rw [if_pos (by omega)]; omega
      · rw [hLi i hi, (g3 i (by omega)).2 (by rw [getD_i hi']; exact h0), Int.mul_zero]
      · rw [hLi i hi, hLi k hk]
        have := g4 (by omega) i k hi' hk' (by rw [getD_i hi', getD_i hk']; exact hw)
        unfold sgn; rw [if_neg (by omega)]; omega
      · rw [hng, ← h2, List.map_map]
        congr 1
        apply List.map_congr_left
        intro x hx
        show sgn (-a) * x = -(sgn a * x)
        by_cases c : a = 0
        · have hx0 : x = 0 := by
            obtain ⟨j, hj, rfl⟩ := List.mem_iff_getElem.1 hx
            have h9 := (g3 j (by omega)).1
            have h8 := hle j (by omega)
            rw [getD_i hj] at h9 h8
            omega
          rw [hx0]; simp
        · unfold sgn; split <;> split <;> omega
end Go.Proofs.YtfjgnfgadkajnaaGreat
