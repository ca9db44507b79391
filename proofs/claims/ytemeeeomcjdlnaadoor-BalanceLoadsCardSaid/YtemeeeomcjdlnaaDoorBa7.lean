/- A point in a convex polygon: what the program asks, and what the reference asks. -/
import Derived.Test.YtemeeeomcjdlnaaDoorBa6
namespace Go.Proofs.YtemeeeomcjdlnaaDoor
open Go Go.RowKit
set_option linter.unusedSimpArgs false
set_option linter.unusedVariables false
set_option linter.deprecated false
def qp (l : List Point) (k : Nat) : Point := l.getD (k % l.length) Point.zero
def edge (l : List Point) (x : Point) (k : Nat) : Int := sideN (qp l k) (qp l (k + 1)) x
def sumN (l : List Point) (x : Point) : Nat → Int
  | 0 => 0
  | m + 1 => sumN l x m + edge l x m
def sumC (l : List Point) : Nat → Int
  | 0 => 0
  | m + 1 => sumC l m + ((qp l m).weight * (qp l (m + 1)).index - (qp l m).index * (qp l (m + 1)).weight)
theorem sumN_eq (l : List Point) (x : Point) (m : Nat) : sumN l x m = ((qp l m).weight - (qp l 0).weight) * x.index - ((qp l m).index - (qp l 0).index) * x.weight + sumC l m := by
  induction m with
  | zero => simp [sumN, sumC]
  | succ m ih =>
    rw [sumN, sumC, ih]
    unfold edge sideN
    grind
theorem qp_lt {l : List Point} {k : Nat} (h : k < l.length) : qp l k = l.getD k Point.zero := by unfold qp; rw [Nat.mod_eq_of_lt h]
theorem qp_nx (l : List Point) (k : Nat) : qp l (k + 1) = l.getD (nx l.length k) Point.zero := rfl
theorem qp_n (l : List Point) : qp l l.length = qp l 0 := by unfold qp; rw [Nat.mod_self, Nat.zero_mod]
theorem sumN_n (l : List Point) (x : Point) : sumN l x l.length = sumC l l.length := by
  rw [sumN_eq, qp_n]; simp
theorem sx_edge {l : List Point} {x : Point} {k : Nat} (h : k < l.length) : sx l x k = side (qp l k) (qp l (k + 1)) x := by unfold sx; rw [qp_lt h, qp_nx]
theorem sd_edge {l : List Point} {i m : Nat} (h : i < l.length) (hm : m < l.length) : sd l i m = side (qp l i) (qp l (i + 1)) (qp l m) := by unfold sd; rw [qp_lt h, qp_nx, qp_lt hm]
/-! Signs. -/
theorem side_s {s : Int} (hs : s = 1 ∨ s = -1) {a b x : Point} : (side a b x = s → 0 < s * sideN a b x) ∧ (side a b x ≠ -s ↔ 0 ≤ s * sideN a b x) := by
  rcases side_cases a b x with ⟨h1, h2⟩ | ⟨h1, h2⟩ | ⟨h1, h2⟩ <;> rcases hs with rfl | rfl <;> rw [h2] <;> constructor <;> first | omega | (constructor <;> intro <;> omega)
theorem sum_nonneg {l : List Point} {x : Point} {s : Int} : ∀ {m : Nat}, (∀ k, k < m → 0 ≤ s * edge l x k) → 0 ≤ s * sumN l x m
  | 0, _ => by simp [sumN]
  | m + 1, h => by
    have h1 := sum_nonneg (m := m) fun k hk => h k (by omega)
    have h2 := h m (by omega)
    rw [sumN, Int.mul_add]; omega
theorem sum_pos {l : List Point} {x : Point} {s : Int} {j : Nat} (hj : 0 < s * edge l x j) : ∀ {m : Nat}, j < m → (∀ k, k < m → 0 ≤ s * edge l x k) → 0 < s * sumN l x m
  | m + 1, hm, h => by
    rw [sumN, Int.mul_add]
    by_cases e : j = m
    · subst e
      have h1 := sum_nonneg (m := j) fun k hk => h k (by omega)
      omega
    · have h1 := sum_pos hj (m := m) (by omega) fun k hk => h k (by omega)
      have h2 := h m (by omega)
      omega
/-! The polygon is convex. -/
theorem valid_ok {l : List Point} (h : ValidL l) : (∀ i, i < l.length → ∀ m, m < l.length → okp l i m = true) ∧ turn l = s0 l ∧ (turn l = 1 ∨ turn l = -1) := by
  have ha : allG l = true := by
    cases e : allG l with
    | true => rfl
    | false => exact absurd (by unfold turn; rw [e]; rfl) h.2
  refine ⟨(allG_iff l).1 ha, turn_all ((allG_iff l).1 ha), ?_⟩
  rcases turn_cases l with h1 | h1 | h1
  · exact absurd h1 h.2
  · exact .inl h1
  · exact .inr h1
theorem corner {l : List Point} (h : ValidL l) {k m : Nat} (hk : k < l.length) (hm : m < l.length) : 0 ≤ turn l * edge l (qp l m) k ∧ (m ≠ k → m ≠ nx l.length k → 0 < turn l * edge l (qp l m) k) := by
  obtain ⟨h1, h2, h3⟩ := valid_ok h
  have ho := h1 k hk m hm
  simp only [okp, Bool.or_eq_true, decide_eq_true_eq] at ho
  have key : sd l k m = s0 l → 0 < turn l * edge l (qp l m) k := fun e => by
    rw [sd_edge hk hm, ← h2] at e
    exact (side_s h3).1 e
  rcases ho with (rfl | e) | e
  · refine ⟨?_, fun h => absurd rfl h⟩
    have : edge l (qp l m) m = 0 := by unfold edge sideN; grind
    rw [this]; omega
  · refine ⟨?_, fun _ h => absurd e h⟩
    have : edge l (qp l m) k = 0 := by
      have e2 : qp l m = qp l (k + 1) := by rw [qp_lt hm, qp_nx, e]
      rw [e2]; unfold edge sideN; grind
    rw [this]; omega
  · exact ⟨Int.le_of_lt (key e), fun _ _ => key e⟩
theorem area_pos {l : List Point} (h : ValidL l) : 0 < turn l * sumC l l.length := by
  have h3 := h.1.1
  rw [← sumN_n l (qp l 2)]
  exact sum_pos (j := 0) ((corner h (by omega) (by omega)).2 (by omega) (by rw [nx0 h3]; omega)) (by omega) fun k hk => (corner h hk (by omega)).1
/-! A point that all polygon lies on one side of is not inside. -/
def crp (s : Int) (p q x : Point) : Int := s * ((p.weight - x.weight) * (q.index - x.index) - (p.index - x.index) * (q.weight - x.weight))
def phi (a b : Int) (p x : Point) : Int := a * (p.weight - x.weight) + b * (p.index - x.index)
theorem crp_tr {s a b : Int} {p q r x : Point} (hp : phi a b p x < 0) (hq : phi a b q x < 0) (hr : phi a b r x < 0) (h1 : 0 ≤ crp s p q x) (h2 : 0 ≤ crp s q r x) : 0 ≤ crp s p r x := by
  have e0 : crp s p r x * phi a b q x = crp s p q x * phi a b r x + crp s q r x * phi a b p x := by unfold crp phi; grind
  have e1 := Int.mul_nonpos_of_nonneg_of_nonpos h1 (Int.le_of_lt hr)
  have e2 := Int.mul_nonpos_of_nonneg_of_nonpos h2 (Int.le_of_lt hp)
  refine Int.not_lt.1 fun hneg => ?_
  have e3 := Int.mul_pos_of_neg_of_neg hneg hq
  omega
theorem crp_edge (s : Int) (l : List Point) (x : Point) (k : Nat) : s * edge l x k = crp s (qp l k) (qp l (k + 1)) x := by unfold edge sideN crp; grind
theorem crp_neg (s : Int) (p q x : Point) : crp s p q x = -crp s q p x := by unfold crp; grind
theorem edge_mod (l : List Point) (x : Point) (k : Nat) : edge l x (k % l.length) = edge l x k := by unfold edge qp; rw [Nat.mod_mod, Nat.mod_add_mod]
theorem qp_add (l : List Point) (k : Nat) : qp l (k + l.length) = qp l k := by unfold qp; rw [Nat.add_mod_right]
theorem out {l : List Point} {x : Point} (h : ValidL l) (he : ∀ k, k < l.length → 0 ≤ turn l * edge l x k) {a b : Int} (hphi : ∀ k, k < l.length → phi a b (qp l k) x < 0) : False := by
  have hn : 0 < l.length := by have := h.1.1; omega
  have hph : ∀ k, phi a b (qp l k) x < 0 := fun k => by
    have := hphi (k % l.length) (Nat.mod_lt _ hn)
    have e : qp l (k % l.length) = qp l k := by unfold qp; rw [Nat.mod_mod]
    rwa [e] at this
  have hed : ∀ k, 0 ≤ crp (turn l) (qp l k) (qp l (k + 1)) x := fun k => by
    rw [← crp_edge, ← edge_mod]; exact he _ (Nat.mod_lt _ hn)
  have chain : ∀ d k, 0 ≤ crp (turn l) (qp l k) (qp l (k + (d + 1))) x := by
    intro d
    induction d with
    | zero => exact hed
    | succ d ih => exact fun k => crp_tr (hph k) (hph (k + (d + 1))) (hph _) (ih k) (hed (k + (d + 1)))
  have zero : ∀ k, turn l * edge l x k = 0 := fun k => by
    have h1 := chain (l.length - 1 - 1) (k + 1)
    have h2 := hed k
    have h3 := h.1.1
    rw [show k + 1 + (l.length - 1 - 1 + 1) = k + l.length by omega, qp_add] at h1
    rw [crp_neg] at h1
    rw [crp_edge]; omega
  have hz : ∀ m, turn l * sumN l x m = 0 := by
    intro m
    induction m with
    | zero => simp [sumN]
    | succ m ih => rw [sumN, Int.mul_add, ih, zero]; rfl
  have := area_pos h
  rw [← sumN_n l x, hz] at this
  omega
theorem low_le (l : List Point) : ∀ n k, k < n → (lowP l n).weight ≤ (l.getD k Point.zero).weight ∧ (lowP l n).index ≤ (l.getD k Point.zero).index
  | n + 1, k, h => by
    rw [lowP]
    by_cases e : k = n
    · subst e; exact ⟨Int.min_le_right .., Int.min_le_right ..⟩
    · have := low_le l n k (by omega)
      exact ⟨Int.le_trans (Int.min_le_left ..) this.1, Int.le_trans (Int.min_le_left ..) this.2⟩
theorem high_le (l : List Point) : ∀ n k, k < n → (l.getD k Point.zero).weight ≤ (highP l n).weight ∧ (l.getD k Point.zero).index ≤ (highP l n).index
  | n + 1, k, h => by
    rw [highP]
    by_cases e : k = n
    · subst e; exact ⟨Int.le_max_right .., Int.le_max_right ..⟩
    · have := high_le l n k (by omega)
      exact ⟨Int.le_trans this.1 (Int.le_max_left ..), Int.le_trans this.2 (Int.le_max_left ..)⟩
theorem sgn {l : List Point} {x : Point} {k : Nat} (hk : k < l.length) : (sx l x k < 0 ↔ edge l x k < 0) ∧ (0 < sx l x k ↔ 0 < edge l x k) := by
  rw [sx_edge hk]
  unfold edge
  rcases side_cases (qp l k) (qp l (k + 1)) x with ⟨h1, h2⟩ | ⟨h1, h2⟩ | ⟨h1, h2⟩ <;> rw [h2] <;> omega
theorem in_edges {l : List Point} {x : Point} (h : ValidL l) (hi : insideB l x = true) : fineB x = true ∧ ∀ k, k < l.length → 0 ≤ turn l * edge l x k := by
  simp only [insideB, Bool.and_eq_true, List.all_eq_true, List.mem_range, Bool.not_eq_true', decide_eq_false_iff_not] at hi
  refine ⟨hi.1, fun k hk => ?_⟩
  have := hi.2 k hk
  rw [sx_edge hk] at this
  exact (side_s (valid_ok h).2.2).2.1 this
theorem edges_in {l : List Point} {x : Point} (h : ValidL l) (hf : fineB x = true) (he : ∀ k, k < l.length → 0 ≤ turn l * edge l x k) : insideB l x = true :=
  in_all hf fun k hk => by rw [sx_edge hk]; exact (side_s (valid_ok h).2.2).2.2 (he k hk)
theorem right_no {l : List Point} {x : Point} {n : Nat} (h : ∀ k, k < n → ¬ sx l x k < 0) : rightB l x n = false := by
  unfold rightB; rw [List.any_eq_false]; intro k hk; simpa using h k (List.mem_range.1 hk)
theorem left_no {l : List Point} {x : Point} {n : Nat} (h : ∀ k, k < n → ¬ 0 < sx l x k) : leftB l x n = false := by
  unfold leftB; rw [List.any_eq_false]; intro k hk; simpa using h k (List.mem_range.1 hk)
theorem right_all {l : List Point} {x : Point} {n : Nat} (h : rightB l x n = false) : ∀ k, k < n → ¬ sx l x k < 0 := by
  unfold rightB at h; rw [List.any_eq_false] at h; intro k hk; simpa using h k (List.mem_range.2 hk)
theorem left_all {l : List Point} {x : Point} {n : Nat} (h : leftB l x n = false) : ∀ k, k < n → ¬ 0 < sx l x k := by
  unfold leftB at h; rw [List.any_eq_false] at h; intro k hk; simpa using h k (List.mem_range.2 hk)
theorem ins_eq {l : List Point} {x : Point} (h : ValidL l) : insP l x = insideB l x := by
  have hn : 0 < l.length := by have := h.1.1; omega
  have har := area_pos h
  obtain ⟨-, -, ht⟩ := valid_ok h
  rw [Bool.eq_iff_iff]
  constructor
  · intro hp
    simp only [insP, Bool.and_eq_true, Bool.or_eq_true, Bool.not_eq_true'] at hp
    obtain ⟨hb, hlr⟩ := hp
    have hf := (fineB_iff x).2 (box_fine h.1 hb)
    have pos : ∀ {s : Int}, (∀ k, k < l.length → 0 ≤ s * edge l x k) → s = turn l ∨ s * turn l = 1 ∨ s = -turn l → (∃ k, k < l.length ∧ 0 < s * edge l x k) → s = -turn l → False := fun hall _ ⟨k, hk, hpos⟩ e => by
      have := sum_pos hpos hk hall
      rw [sumN_n, e, Int.neg_mul] at this
      omega
    refine edges_in h hf fun k hk => Int.not_lt.1 fun hneg => ?_
    rcases ht with ht | ht
    · rw [ht] at hneg
      have hk0 : edge l x k < 0 := by omega
      have hl := left_all (hlr.resolve_right fun hr => right_all hr k hk ((sgn hk).1.2 hk0))
      exact pos (s := -1) (fun j hj => by have := hl j hj; rw [(sgn hj).2] at this; omega) (.inr (.inr (by rw [ht]))) ⟨k, hk, by omega⟩ (by rw [ht])
    · rw [ht] at hneg
      have hk0 : 0 < edge l x k := by omega
      have hr := right_all (hlr.resolve_left fun hl => left_all hl k hk ((sgn hk).2.2 hk0))
      exact pos (s := 1) (fun j hj => by have := hr j hj; rw [(sgn hj).1] at this; omega) (.inr (.inr (by rw [ht]; rfl))) ⟨k, hk, by omega⟩ (by rw [ht]; rfl)
  · intro hi
    obtain ⟨hf, he⟩ := in_edges h hi
    have hlr : (!leftB l x l.length || !rightB l x l.length) = true := by
      rcases ht with ht | ht
      · rw [right_no fun k hk => by have := he k hk; rw [ht] at this; rw [(sgn hk).1]; omega]; simp
      · rw [left_no fun k hk => by have := he k hk; rw [ht] at this; rw [(sgn hk).2]; omega]; simp
    have nout : ∀ a b : Int, (∀ k, k < l.length → phi a b (l.getD k Point.zero) x < 0) → False := fun a b hph => out h he (a := a) (b := b) fun k hk => by rw [qp_lt hk]; exact hph k hk
    have hbx : boxB l x = true := by
      simp only [boxB, within, Bool.and_eq_true, decide_eq_true_eq]
      refine ⟨⟨Int.not_lt.1 fun c => nout (-1) 0 fun k hk => ?_, Int.not_lt.1 fun c => nout 1 0 fun k hk => ?_⟩, Int.not_lt.1 fun c => nout 0 (-1) fun k hk => ?_, Int.not_lt.1 fun c => nout 0 1 fun k hk => ?_⟩
      · have := (low_le l _ k hk).1; unfold phi; omega
      · have := (high_le l _ k hk).1; unfold phi; omega
      · have := (low_le l _ k hk).2; unfold phi; omega
      · have := (high_le l _ k hk).2; unfold phi; omega
    unfold insP
    rw [hbx, hlr]; rfl
/-- Corners, and middles of points inside, are inside. -/
theorem corner_in {l : List Point} (h : ValidL l) {m : Nat} (hm : m < l.length) : insideB l l[m] = true := by
  have e : qp l m = l[m] := by rw [qp_lt hm, getD_lt _ _ _ hm]
  have := fun k (hk : k < l.length) => (corner h hk hm).1
  rw [e] at this
  exact edges_in h ((fineB_iff _).2 (fine_mem h.1 hm)) this
theorem middle_in {l : List Point} {x y z : Point} (h : ValidL l) (hx : insideB l x = true) (hy : insideB l y = true) (h1 : 2 * z.weight = x.weight + y.weight) (h2 : 2 * z.index = x.index + y.index) : insideB l z = true := by
  obtain ⟨fx, ex⟩ := in_edges h hx
  obtain ⟨fy, ey⟩ := in_edges h hy
  rw [fineB_iff] at fx fy
  obtain ⟨a1, a2, a3, a4⟩ := fx
  obtain ⟨b1, b2, b3, b4⟩ := fy
  refine edges_in h ((fineB_iff _).2 (by unfold fineP; omega)) fun k hk => ?_
  have q1 := ex k hk
  have q2 := ey k hk
  have key : 2 * (turn l * edge l z k) = turn l * edge l x k + turn l * edge l y k := by unfold edge sideN; grind
  omega
end Go.Proofs.YtemeeeomcjdlnaaDoor
