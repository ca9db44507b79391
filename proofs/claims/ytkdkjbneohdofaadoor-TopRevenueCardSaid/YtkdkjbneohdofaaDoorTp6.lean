/- Shares that are billed and netted: plain law. -/
import Derived.Test.YtkdkjbneohdofaaDoorSe10
import Derived.Test.YtkdkjbneohdofaaDoorPr4
namespace Go.Proofs.YtkdkjbneohdofaaDoor
open Go Go.RowKit
set_option linter.unusedSimpArgs false
set_option linter.unusedVariables false
set_option linter.deprecated false
def small (n : Int) : Prop := 0 ≤ n ∧ n ≤ 1073741824
theorem sumF_small : ∀ (l : List Int) (n : Int), (∀ x ∈ l, small x) → 0 ≤ n → n + 1073741824 * (l.length : Int) ≤ 1099511627776 → sumF n l = (n + l.sum, 0)
  | [], n, _, _, _ => by simp [sumF]
  | x :: l, n, h, h0, h1 => by
    obtain ⟨a, b⟩ := h x (List.mem_cons_self ..)
    rw [List.length_cons] at h1
    have f1 : fitB x = true := by unfold fitB; simp; omega
    have f2 : fitB (n + x) = true := by unfold fitB; simp; omega
    rw [sumF, f1, f2]
    simp only [Bool.and_self, if_true]
    rw [sumF_small l (n + x) (fun y hy => h y (List.mem_cons_of_mem _ hy)) (by omega) (by omega), List.sum_cons]
    congr 1; omega
theorem vals_len : ∀ (P : NA) (k : List UInt8), (vals P k).length ≤ P.length
  | [], _ => Nat.le_refl _
  | p :: P, k => by
    have := vals_len P k
    rw [vals]; split
    · simp; exact this
    · simp; omega
theorem vals_sm : ∀ {P : NA} {k : List UInt8}, (∀ p ∈ P, small p.2) → ∀ x ∈ vals P k, small x
  | [], _, _, x, hx => by cases hx
  | p :: P, k, h, x, hx => by
    rw [vals] at hx
    split at hx
    · rcases List.mem_cons.1 hx with rfl | hx
      · exact h p (List.mem_cons_self ..)
      · exact vals_sm (fun q hq => h q (List.mem_cons_of_mem _ hq)) x hx
    · exact vals_sm (fun q hq => h q (List.mem_cons_of_mem _ hq)) x hx
theorem upGo_ok {f : List UInt8 → List Int} : ∀ {ks : List (List UInt8)}, (∀ k ∈ ks, (∀ x ∈ f k, small x) ∧ (f k).length ≤ 100) → upGo f ks = some (ks.map fun k => (f k).sum)
  | [], _ => rfl
  | k :: ks, h => by
    obtain ⟨a, b⟩ := h k (List.mem_cons_self ..)
    have e := sumF_small (f k) 0 a (by omega) (by omega)
    rw [upGo, e, if_neg (by simp), upGo_ok fun x hx => h x (List.mem_cons_of_mem _ hx)]
    simp
theorem zip_map (g : List UInt8 → Int) : ∀ ks : List (List UInt8), List.zipWith Post.mk ks (ks.map g) = ks.map fun k => ⟨k, g k⟩
  | [] => rfl
  | k :: ks => by rw [List.map_cons, List.zipWith_cons_cons, zip_map g ks, List.map_cons]
def shP (P : NA) : List Post := (namesP P).map fun k => ⟨k, (vals P k).sum⟩
theorem uR_ok {P : NA} (hl : P.length ≤ 100) (h : ∀ p ∈ P, small p.2) : postsZ (uR P) = shP P ∧ (uR P).2.2 = 0 := by
  have e : upP P = some ((namesP P).map fun k => (vals P k).sum) := upGo_ok fun k _ => ⟨vals_sm h, by have := vals_len P k; omega⟩
  unfold uR
  rw [e]
  exact ⟨zip_map _ _, rfl⟩
def owe (c : List UInt8) : NA → Int
  | [] => 0
  | p :: P => (if p.1 = c then 0 else p.2) + owe c P
theorem owe_snoc (c : List UInt8) : ∀ (P : NA) (p : List UInt8 × Int), owe c (P ++ [p]) = owe c P + (if p.1 = c then 0 else p.2)
  | [], p => by simp [owe]
  | q :: P, p => by rw [List.cons_append, owe, owe, owe_snoc c P p]; omega
theorem owe_bd (c : List UInt8) : ∀ {P : NA}, (∀ p ∈ P, small p.2) → 0 ≤ owe c P ∧ owe c P ≤ 1073741824 * (P.length : Int)
  | [], _ => by simp [owe]
  | p :: P, h => by
    obtain ⟨a, b⟩ := h p (List.mem_cons_self ..)
    have := owe_bd c (P := P) fun q hq => h q (List.mem_cons_of_mem _ hq)
    rw [owe, List.length_cons]
    split <;> omega
def notB (c : List UInt8) (k : List UInt8) : Bool := !decide (k = c)
theorem vals_not {c : List UInt8} : ∀ {P : NA} {k : List UInt8}, k ≠ c → vals (P.filter fun p => notB c p.1) k = vals P k
  | [], _, _ => rfl
  | p :: P, k, h => by
    have ih := vals_not (P := P) h
    by_cases e : p.1 = c
    · rw [List.filter_cons_of_neg (by simp [notB, e]), vals, if_neg (fun e2 => h (by rw [← e2, e])), ih]
    · rw [List.filter_cons_of_pos (by simp [notB, e]), vals, vals, ih]
theorem owe_filter (c : List UInt8) : ∀ P : NA, owe c P = ((P.filter fun p => notB c p.1).map (·.2)).sum
  | [] => rfl
  | p :: P => by
    rw [owe, owe_filter c P]
    by_cases e : p.1 = c
    · rw [if_pos e, List.filter_cons_of_neg (by simp [notB, e])]; omega
    · rw [if_neg e, List.filter_cons_of_pos (by simp [notB, e]), List.map_cons, List.sum_cons]
def dsum (D : List Due) : Int := (D.map (·.amount)).sum
theorem dsum_app (A B : List Due) : dsum (A ++ B) = dsum A + dsum B := by unfold dsum; rw [List.map_append, List.sum_append]
theorem bill_dsum (c : List UInt8) (g : List UInt8 → Int) : ∀ ks : List (List UInt8), dsum (billP c (ks.map fun k => ⟨k, g k⟩)) = ((ks.filter (notB c)).map g).sum
  | [] => rfl
  | k :: ks => by
    have ih := bill_dsum c g ks
    unfold billP at ih ⊢
    rw [List.map_cons]
    by_cases e : k = c
    · rw [List.filter_cons_of_neg (by simp [billB, e]), List.filter_cons_of_neg (by simp [notB, e])]; exact ih
    · rw [List.filter_cons_of_pos (p := notB c) (by simp [notB, e]), List.map_cons, List.sum_cons]
      by_cases z : g k = 0
      · rw [List.filter_cons_of_neg (by simp [billB, z]), z]; rw [ih]; omega
      · rw [List.filter_cons_of_pos (by simp [billB, e, z])]
        unfold dsum at ih ⊢
        rw [List.map_cons, List.map_cons, List.sum_cons, ih]
theorem bill_owe (c : List UInt8) (P : NA) : dsum (billP c (shP P)) = owe c P := by
  unfold shP
  rw [bill_dsum, owe_filter]
  obtain ⟨r1, r2, r3⟩ := namesP_inv P
  have nd : (namesP P).Nodup := r1.imp fun {x y} h e => by subst e; rw [slt_irr] at h; cases h
  have e1 : ((namesP P).filter (notB c)).map (fun k => (vals P k).sum) = ((namesP P).filter (notB c)).map (fun k => (vals (P.filter fun p => notB c p.1) k).sum) := List.map_congr_left fun k hk => by
    have := (List.mem_filter.1 hk).2
    rw [vals_not (by simpa [notB] using this)]
  rw [e1]
  exact vals_zip_sum (nd.filter _) fun p hp => by
    obtain ⟨h1, h2⟩ := List.mem_filter.1 hp
    exact List.mem_filter.2 ⟨(r2 _).2 (List.mem_map.2 ⟨p, h1, rfl⟩), h2⟩
theorem sum_small : ∀ {l : List Int}, (∀ x ∈ l, small x) → 0 ≤ l.sum ∧ l.sum ≤ 1073741824 * (l.length : Int)
  | [], _ => by simp
  | x :: l, h => by
    obtain ⟨a, b⟩ := h x (List.mem_cons_self ..)
    have := sum_small (l := l) fun y hy => h y (List.mem_cons_of_mem _ hy)
    rw [List.sum_cons, List.length_cons]; omega
/-- What a star of dues is: all are from one carrier. -/
def Star (c : List UInt8) (d : Due) : Prop := d.from' = c ∧ d.to' ≠ c ∧ 1 ≤ d.amount
theorem bill_star {c : List UInt8} {P : NA} (h : ∀ p ∈ P, small p.2) (hk : ∀ p ∈ P, p.1.length ≤ 140737488355328) (hl : P.length ≤ 100) : ∀ d ∈ billP c (shP P), Star c d ∧ d.amount ≤ 107374182400 ∧ d.to'.length ≤ 140737488355328 := fun d hd => by
  unfold billP shP at hd
  obtain ⟨x, hx, rfl⟩ := List.mem_map.1 hd
  obtain ⟨h1, h2⟩ := List.mem_filter.1 hx
  obtain ⟨k, hk1, rfl⟩ := List.mem_map.1 h1
  simp only [billB, Bool.and_eq_true, Bool.not_eq_true', decide_eq_false_iff_not] at h2
  have hs := sum_small (l := vals P k) (vals_sm h)
  have := vals_len P k
  obtain ⟨p, hp, rfl⟩ := List.mem_map.1 (((namesP_inv P).2.1 k).1 hk1)
  exact ⟨⟨rfl, h2.1, by dsimp only; omega⟩, by dsimp only; omega, hk p hp⟩
theorem shP_len (P : NA) : (shP P).length ≤ P.length := by unfold shP; rw [List.length_map]; exact (namesP_inv P).2.2
/-! The net of a star. -/
theorem star_c {c : List UInt8} : ∀ {D : List Due} (L : Assoc Int), (∀ d ∈ D, Star c d) → getA (D.foldl addD L) c = getA L c - dsum D
  | [], L, _ => by simp [dsum]
  | d :: D, L, h => by
    obtain ⟨h1, h2, _⟩ := h d (List.mem_cons_self ..)
    rw [List.foldl_cons, star_c (addD L d) fun x hx => h x (List.mem_cons_of_mem _ hx)]
    have e : getA (addD L d) c = getA L c - d.amount := by
      unfold addD
      rw [getA_add, if_neg h2, getA_add, if_pos h1, h1]; omega
    rw [e]
    unfold dsum
    rw [List.map_cons, List.sum_cons]; omega
theorem star_k {c k : List UInt8} (hk : k ≠ c) : ∀ {D : List Due} (L : Assoc Int), (∀ d ∈ D, Star c d) → getA L k ≤ getA (D.foldl addD L) k ∧ getA (D.foldl addD L) k ≤ getA L k + dsum D
  | [], L, _ => by simp [dsum]
  | d :: D, L, h => by
    obtain ⟨h1, h2, h3⟩ := h d (List.mem_cons_self ..)
    have ih := star_k hk (D := D) (addD L d) fun x hx => h x (List.mem_cons_of_mem _ hx)
    rw [List.foldl_cons]
    have e : getA (addD L d) k = getA L k ∨ getA (addD L d) k = getA L k + d.amount := by
      unfold addD
      rw [getA_add]
      split
      · rename_i e2; right; rw [getA_add, if_neg (fun e3 => h2 (by rw [← e3, h1]))]; rw [e2]
      · left; rw [getA_add, if_neg (fun e3 => hk (by rw [← e3, h1]))]
    unfold dsum at ih ⊢
    rw [List.map_cons, List.sum_cons]
    rcases e with e | e <;> rw [e] at ih <;> omega
structure Rev (n : Nat) (c : List UInt8) (D : List Due) (w : Int) : Prop where
  len : D.length ≤ 8 * n
  star : ∀ d ∈ D, Star c d ∧ d.amount ≤ 107374182400 ∧ d.to'.length ≤ 140737488355328
  sum : dsum D = w
  bd : 0 ≤ w ∧ w ≤ 8589934592 * (n : Int)
end Go.Proofs.YtkdkjbneohdofaaDoor
