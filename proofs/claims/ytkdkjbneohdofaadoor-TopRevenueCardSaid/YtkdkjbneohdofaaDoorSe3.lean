/- Net of the reference; both are the same. -/
import Derived.Test.YtkdkjbneohdofaaDoorSe2
import Derived.Test.YtkdkjbneohdofaaDoorAv23
namespace Go.Proofs.YtkdkjbneohdofaaDoor
open Go Go.RowKit
set_option linter.unusedSimpArgs false
set_option linter.unusedVariables false
set_option linter.deprecated false
/-! Balances in order are the sums. -/
def getP : List Post → List UInt8 → Int
  | [], _ => 0
  | p :: l, k => if p.account = k then p.amount else getP l k
def RiseP (R : List Post) : Prop := (R.map (·.account)).Pairwise (fun x y => slt x y = true)
theorem adP_mem (R : List Post) (n : List UInt8) (a : Int) (k : List UInt8) : k ∈ (adP R n a).map (·.account) ↔ k = n ∨ k ∈ R.map (·.account) := by
  induction R with
  | nil => simp [adP]
  | cons p R ih =>
    rw [adP]
    split
    · rename_i h; simp [h]
    · split
      · simp
      · rw [List.map_cons, List.mem_cons, ih, List.map_cons, List.mem_cons]
        constructor
        · rintro (a | a | a); exact .inr (.inl a); exact .inl a; exact .inr (.inr a)
        · rintro (a | a | a); exact .inr (.inl a); exact .inl a; exact .inr (.inr a)
theorem adP_rise {R : List Post} (h : RiseP R) (n : List UInt8) (a : Int) : RiseP (adP R n a) := by
  induction R with
  | nil => exact List.pairwise_cons.2 ⟨fun x hx => by simp at hx, List.Pairwise.nil⟩
  | cons p R ih =>
    obtain ⟨h1, h2⟩ := List.pairwise_cons.1 h
    rw [adP]
    split
    · exact List.pairwise_cons.2 ⟨h1, h2⟩
    · split
      · rename_i h3 h4
        exact List.pairwise_cons.2 ⟨fun x hx => by
          rcases List.mem_cons.1 hx with rfl | hx
          · exact h4
          · exact slt_trans h4 (h1 x hx), h⟩
      · rename_i h3 h4
        refine List.pairwise_cons.2 ⟨fun x hx => ?_, ih h2⟩
        rcases (adP_mem R n a x).1 hx with rfl | hx
        · rcases slt_tri p.account x with h5 | h5 | h5
          · exact h5
          · exact absurd h5 h3
          · exact absurd h5 h4
        · exact h1 x hx
theorem getP_none {R : List Post} {k : List UInt8} (h : k ∉ R.map (·.account)) : getP R k = 0 := by
  induction R with
  | nil => rfl
  | cons p R ih =>
    rw [List.map_cons, List.mem_cons, not_or] at h
    rw [getP, if_neg (Ne.symm h.1), ih h.2]
theorem getP_add {R : List Post} (h : RiseP R) (n : List UInt8) (a : Int) (k : List UInt8) : getP (adP R n a) k = if n = k then getP R n + a else getP R k := by
  induction R with
  | nil => rw [adP]; simp [getP]
  | cons p R ih =>
    obtain ⟨h1, h2⟩ := List.pairwise_cons.1 h
    rw [adP]
    split
    · rename_i h3
      simp only [getP, h3]
      by_cases e : n = k
      · simp [e]
      · simp [e]
    · rename_i h3
      split
      · rename_i h4
        have hn : n ∉ R.map (·.account) := fun hm => by
          have := slt_trans h4 (h1 n hm)
          rw [slt_irr] at this; cases this
        simp only [getP]
        rw [if_neg h3, getP_none hn]
        by_cases e : n = k
        · simp [e]
        · simp [e]
      · simp only [getP]
        rw [ih h2, if_neg h3]
        by_cases e : n = k
        · subst e; simp [h3]
        · simp [e]
structure RInv (L : Assoc Int) (R : List Post) : Prop where
  rise : RiseP R
  keys : ∀ k, k ∈ R.map (·.account) ↔ k ∈ L.map (·.1)
  val : ∀ k, getP R k = getA L k
theorem RInv.add {L : Assoc Int} {R : List Post} (h : RInv L R) (n : List UInt8) (a : Int) : RInv (addA L n a) (adP R n a) := by
  refine ⟨adP_rise h.rise n a, fun k => ?_, fun k => ?_⟩
  · rw [adP_mem, h.keys k]; exact (aput_mem L n k _).symm
  · rw [getP_add h.rise, getA_add, h.val, h.val]
theorem post_of {R : List Post} (h : (R.map (·.account)).Nodup) : R = (R.map (·.account)).map fun k => ⟨k, getP R k⟩ := by
  induction R with
  | nil => rfl
  | cons p R ih =>
    obtain ⟨h1, h2⟩ := List.nodup_cons.1 h
    rw [List.map_cons, List.map_cons]
    congr 1
    · simp [getP]
    · conv => lhs; rw [ih h2]
      refine List.map_congr_left fun k hk => ?_
      rw [getP, if_neg (fun e => h1 (by show p.account ∈ _; rw [e]; exact hk))]
theorem RInv.eq {L : Assoc Int} {R : List Post} (h : RInv L R) (nd : (L.map (·.1)).Nodup) : R = postsA L := by
  have hs : R.map (·.account) = sortS (L.map (·.1)) := rise_eq h.rise (rise_of (sortS_sorted _) ((sortS_perm _).nodup_iff.2 nd)) fun x => by rw [h.keys x, (sortS_perm _).mem_iff]
  have hnd : (R.map (·.account)).Nodup := by rw [hs]; exact (sortS_perm _).nodup_iff.2 nd
  rw [post_of hnd, hs]
  unfold postsA
  exact List.map_congr_left fun k _ => by rw [h.val]
def addPD (R : List Post) (x : Due) : List Post := adP (adP R x.from' (-x.amount)) x.to' x.amount
def netL (l : List Due) : List Post := l.foldl addPD []
theorem netL_step {l : List Due} {i : Nat} (h : i < l.length) : netL (l.take (i + 1)) = addPD (netL (l.take i)) l[i] := by
  unfold netL
  rw [take_succ' h, List.foldl_append]; rfl
theorem netL_inv (l : List Due) : RInv (sumD l) (netL l) := by
  suffices h : ∀ (L : Assoc Int) (R : List Post), RInv L R → RInv (l.foldl addD L) (l.foldl addPD R) from h [] [] ⟨List.Pairwise.nil, fun k => by simp, fun k => rfl⟩
  induction l with
  | nil => intro L R h; exact h
  | cons x l ih => intro L R h; exact ih _ _ ((h.add _ _).add _ _)
theorem getP_bd {R : List Post} {B : Int} (hr : RiseP R) (h : ∀ k, -B ≤ getP R k ∧ getP R k ≤ B) : ∀ x ∈ R, -B ≤ x.amount ∧ x.amount ≤ B := by
  induction R with
  | nil => intro x hx; cases hx
  | cons p R ih =>
    obtain ⟨h1, h2⟩ := List.pairwise_cons.1 hr
    intro x hx
    rcases List.mem_cons.1 hx with rfl | hx
    · have := h x.account; simpa [getP] using this
    · have hb : 0 ≤ B := by have := h p.account; omega
      refine ih h2 (fun k => ?_) x hx
      by_cases e : p.account = k
      · subst e
        rw [getP_none (fun hm => by have := h1 _ hm; rw [slt_irr] at this; cases this)]
        omega
      · have := h k; rwa [getP, if_neg e] at this
theorem adP_len (R : List Post) (n : List UInt8) (a : Int) : (adP R n a).length ≤ R.length + 1 := by
  induction R with
  | nil => simp [adP]
  | cons p R ih => rw [adP]; split; (· simp); (· split; (· simp); (· simp; omega))
theorem netL_len (l : List Due) : (netL l).length ≤ 2 * l.length := by
  suffices h : ∀ R : List Post, (l.foldl addPD R).length ≤ R.length + 2 * l.length from by have := h []; unfold netL; simp only [List.length_nil] at this; omega
  induction l with
  | nil => intro R; simp
  | cons x l ih =>
    intro R
    have h1 := ih (addPD R x)
    have h2 := adP_len R x.from' (-x.amount)
    have h3 := adP_len (adP R x.from' (-x.amount)) x.to' x.amount
    unfold addPD at h1
    rw [List.foldl_cons, List.length_cons]
    unfold addPD
    omega
end Go.Proofs.YtkdkjbneohdofaaDoor
