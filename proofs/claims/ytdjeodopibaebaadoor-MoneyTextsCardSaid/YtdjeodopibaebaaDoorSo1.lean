/- The order of indices by their rests, the greatest first, equal ones by index; how the pieces of a stable sort make it. -/
import Derived.Test.YtdjeodopibaebaaDoorT3
namespace Go.Proofs.YtdjeodopibaebaaDoor
open Go Go.RowKit
set_option linter.unusedSimpArgs false
set_option linter.unusedVariables false
set_option linter.deprecated false
/-- x stands before y. -/
def Tb (f : Nat → Int) (x y : Nat) : Prop := f y < f x ∨ (f x = f y ∧ x < y)
instance (f : Nat → Int) (x y : Nat) : Decidable (Tb f x y) := inferInstanceAs (Decidable (_ ∨ _))
theorem Tb.irr {f : Nat → Int} {x : Nat} : ¬ Tb f x x := by unfold Tb; omega
theorem Tb.tr {f : Nat → Int} {x y z : Nat} (h : Tb f x y) (k : Tb f y z) : Tb f x z := by unfold Tb at *; omega
theorem Tb.asym {f : Nat → Int} {x y : Nat} (h : Tb f x y) : ¬ Tb f y x := by unfold Tb at *; omega
theorem Tb.tri {f : Nat → Int} (x y : Nat) : Tb f x y ∨ x = y ∨ Tb f y x := by unfold Tb; omega
theorem Tb.of_lt {f : Nat → Int} {x y : Nat} (h : x < y) : (f x < f y ↔ Tb f y x) ∧ (¬ f x < f y ↔ Tb f x y) := by unfold Tb; omega
def insT (f : Nat → Int) (x : Nat) : List Nat → List Nat
  | [] => [x]
  | y :: l => if Tb f x y then x :: y :: l else y :: insT f x l
def msT (f : Nat → Int) : List Nat → List Nat
  | [] => []
  | x :: l => insT f x (msT f l)
def SortT (f : Nat → Int) (l : List Nat) : Prop := l.Pairwise (Tb f)
section
variable {f : Nat → Int}
theorem insT_perm (x : Nat) (l : List Nat) : (insT f x l).Perm (x :: l) := by
  induction l with
  | nil => exact .refl _
  | cons y l ih =>
    rw [insT]
    split
    · exact .refl _
    · exact (ih.cons y).trans (.swap x y l)
theorem msT_perm (l : List Nat) : (msT f l).Perm l := by
  induction l with
  | nil => exact .refl _
  | cons x l ih => exact (insT_perm x _).trans (ih.cons x)
theorem insT_sort {x : Nat} {l : List Nat} (h : SortT f l) (hx : x ∉ l) : SortT f (insT f x l) := by
  unfold SortT at *
  induction l with
  | nil => exact List.pairwise_singleton _ _
  | cons y l ih =>
    rw [insT]
    obtain ⟨h1, h2⟩ := List.pairwise_cons.1 h
    have hxy : x ≠ y := fun e => hx (e ▸ List.mem_cons_self ..)
    have hxl : x ∉ l := fun e => hx (List.mem_cons_of_mem _ e)
    split
    · rename_i c
      refine List.pairwise_cons.2 ⟨fun z hz => ?_, h⟩
      rcases List.mem_cons.1 hz with rfl | hz
      · exact c
      · exact c.tr (h1 z hz)
    · rename_i c
      refine List.pairwise_cons.2 ⟨fun z hz => ?_, ih h2 hxl⟩
      rcases List.mem_cons.1 ((insT_perm x l).mem_iff.1 hz) with rfl | hz
      · exact ((Tb.tri z y).resolve_left c).resolve_left hxy
      · exact h1 z hz
theorem msT_sort {l : List Nat} (h : l.Nodup) : SortT f (msT f l) := by
  induction l with
  | nil => exact List.Pairwise.nil
  | cons x l ih =>
    rw [List.nodup_cons] at h
    exact insT_sort (ih h.2) (fun hx => h.1 ((msT_perm l).mem_iff.1 hx))
theorem SortT.nodup {l : List Nat} (h : SortT f l) : l.Nodup := List.Pairwise.imp (fun {a b} h e => by subst e; exact Tb.irr h) h
theorem SortT.eq {a b : List Nat} (ha : SortT f a) (hb : SortT f b) (h : a.Perm b) : a = b :=
  List.Perm.eq_of_pairwise (le := Tb f) (fun _ _ _ _ h1 h2 => absurd h2 h1.asym) ha hb h
theorem msT_eq {a l : List Nat} (ha : SortT f a) (h : a.Perm l) : msT f l = a :=
  (msT_sort (h.nodup_iff.1 ha.nodup)).eq ha ((msT_perm l).trans h.symm)
theorem msT_self {a : List Nat} (ha : SortT f a) : msT f a = a := msT_eq ha (.refl _)
theorem msT_len (l : List Nat) : (msT f l).length = l.length := (msT_perm l).length_eq
theorem SortT.app {a b : List Nat} (ha : SortT f a) (hb : SortT f b) (h : ∀ x ∈ a, ∀ y ∈ b, Tb f x y) : SortT f (a ++ b) := List.pairwise_append.2 ⟨ha, hb, h⟩
theorem SortT.parts {a b : List Nat} (h : SortT f (a ++ b)) : SortT f a ∧ SortT f b ∧ ∀ x ∈ a, ∀ y ∈ b, Tb f x y := List.pairwise_append.1 h
/-- The middle of a merge. -/
theorem msT_mid {u1 u2 v1 v2 : List Nat} (hu : SortT f (u1 ++ u2)) (hv : SortT f (v1 ++ v2)) (hn : ∀ x ∈ u1 ++ u2, ∀ y ∈ v1 ++ v2, x < y) (h1 : ∀ x ∈ u1, ∀ y ∈ v2, Tb f x y) (h2 : ∀ x ∈ v1, ∀ y ∈ u2, Tb f x y) :
    msT f ((u1 ++ u2) ++ (v1 ++ v2)) = msT f (u1 ++ v1) ++ msT f (u2 ++ v2) := by
  obtain ⟨a1, a2, a3⟩ := hu.parts
  obtain ⟨b1, b2, b3⟩ := hv.parts
  have nd : ∀ {p q : List Nat}, SortT f p → SortT f q → (∀ x ∈ p, ∀ y ∈ q, x < y) → (p ++ q).Nodup := fun hp hq h =>
    List.nodup_append.2 ⟨hp.nodup, hq.nodup, fun x hx y hy e => by have := h x hx y hy; omega⟩
  have n1 : (u1 ++ v1).Nodup := nd a1 b1 (fun x hx y hy => hn x (List.mem_append_left _ hx) y (List.mem_append_left _ hy))
  have n2 : (u2 ++ v2).Nodup := nd a2 b2 (fun x hx y hy => hn x (List.mem_append_right _ hx) y (List.mem_append_right _ hy))
  refine msT_eq ((msT_sort n1).app (msT_sort n2) (fun x hx y hy => ?_)) ?_
  · rcases List.mem_append.1 ((msT_perm _).mem_iff.1 hx) with hx | hx <;> rcases List.mem_append.1 ((msT_perm _).mem_iff.1 hy) with hy | hy
    · exact a3 x hx y hy
    · exact h1 x hx y hy
    · exact h2 x hx y hy
    · exact b3 x hx y hy
  · refine ((msT_perm _).append (msT_perm _)).trans ?_
    rw [List.append_assoc, List.append_assoc]
    refine List.Perm.append_left u1 ?_
    rw [← List.append_assoc, ← List.append_assoc]
    exact List.Perm.append_right v2 List.perm_append_comm
/-- One element put among many. -/
theorem msT_one1 {x : Nat} {v1 v2 : List Nat} (hv : SortT f (v1 ++ v2)) (h1 : ∀ y ∈ v1, Tb f y x) (h2 : ∀ y ∈ v2, Tb f x y) : msT f (x :: (v1 ++ v2)) = v1 ++ x :: v2 := by
  obtain ⟨b1, b2, b3⟩ := hv.parts
  refine msT_eq (b1.app (List.pairwise_cons.2 ⟨h2, b2⟩) (fun y hy z hz => ?_)) List.perm_middle
  rcases List.mem_cons.1 hz with rfl | hz
  · exact h1 y hy
  · exact b3 y hy z hz
theorem msT_one2 {x : Nat} {v1 v2 : List Nat} (hv : SortT f (v1 ++ v2)) (h1 : ∀ y ∈ v1, Tb f y x) (h2 : ∀ y ∈ v2, Tb f x y) : msT f ((v1 ++ v2) ++ [x]) = v1 ++ x :: v2 := by
  rw [← msT_one1 hv h1 h2]
  have nd : (v1 ++ x :: v2).Nodup := by
    obtain ⟨b1, b2, b3⟩ := hv.parts
    refine SortT.nodup (f := f) (b1.app (List.pairwise_cons.2 ⟨h2, b2⟩) (fun y hy z hz => ?_))
    rcases List.mem_cons.1 hz with rfl | hz
    · exact h1 y hy
    · exact b3 y hy z hz
  have p : (v1 ++ v2 ++ [x]).Perm (x :: (v1 ++ v2)) := List.perm_append_singleton x (v1 ++ v2)
  exact msT_eq (msT_sort ((List.perm_middle.nodup_iff).1 nd)) ((msT_perm _).trans p.symm)
/-- Blocks of so many, each in order. -/
def chT (f : Nat → Int) (bs : Nat) (s : Nat) : Nat → Nat → List Nat
  | 0, n => msT f (List.range' s n)
  | k + 1, n => if n ≤ bs then msT f (List.range' s n) else msT f (List.range' s bs) ++ chT f bs (s + bs) k (n - bs)
theorem chT_le {bs s k n : Nat} (h : n ≤ bs) : chT f bs s k n = msT f (List.range' s n) := by
  cases k with
  | zero => rfl
  | succ k => rw [chT, if_pos h]
theorem chT_len (bs s k n : Nat) : (chT f bs s k n).length = n := by
  induction k generalizing s n with
  | zero => rw [chT, msT_len, List.length_range']
  | succ k ih =>
    rw [chT]
    split
    · rw [msT_len, List.length_range']
    · rw [List.length_append, msT_len, List.length_range', ih]; omega
/-- The steps do not matter if they are enough. -/
theorem chT_more {bs : Nat} (hb : 0 < bs) {s k k' n : Nat} (h : n ≤ k) (h' : n ≤ k') : chT f bs s k n = chT f bs s k' n := by
  induction k generalizing s k' n with
  | zero =>
    obtain rfl : n = 0 := by omega
    rw [chT_le (Nat.zero_le _), chT_le (Nat.zero_le _)]
  | succ k ih =>
    cases k' with
    | zero =>
      obtain rfl : n = 0 := by omega
      rw [chT_le (Nat.zero_le _), chT_le (Nat.zero_le _)]
    | succ k' =>
      rw [chT, chT]
      split
      · rfl
      · rw [ih (s := s + bs) (k' := k') (n := n - bs) (by omega) (by omega)]
def chR (f : Nat → Int) (bs s n : Nat) : List Nat := chT f bs s n n
theorem chR_le {bs s n : Nat} (h : n ≤ bs) : chR f bs s n = msT f (List.range' s n) := chT_le h
theorem chR_gt {bs s n : Nat} (hb : 0 < bs) (h : bs < n) : chR f bs s n = msT f (List.range' s bs) ++ chR f bs (s + bs) (n - bs) := by
  unfold chR
  cases n with
  | zero => omega
  | succ n =>
    rw [chT, if_neg (by omega)]
    congr 1
    exact chT_more hb (by omega) (Nat.le_refl _)
theorem chR_len (bs s n : Nat) : (chR f bs s n).length = n := chT_len ..
theorem chR_ge {bs s n : Nat} (hb : 0 < bs) (h : bs ≤ n) : chR f bs s n = msT f (List.range' s bs) ++ chR f bs (s + bs) (n - bs) := by
  rcases Nat.lt_or_ge bs n with h1 | h1
  · exact chR_gt hb h1
  · obtain rfl : n = bs := by omega
    rw [chR_le (Nat.le_refl _), Nat.sub_self, chR_le (Nat.zero_le _)]
    simp [msT]
end
end Go.Proofs.YtdjeodopibaebaaDoor
