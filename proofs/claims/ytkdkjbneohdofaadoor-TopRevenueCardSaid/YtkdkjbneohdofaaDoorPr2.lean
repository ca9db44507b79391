/- Sums by name: plain law. -/
import Derived.Test.YtkdkjbneohdofaaDoorT7
import Derived.Test.YtkdkjbneohdofaaDoorMo1
namespace Go.Proofs.YtkdkjbneohdofaaDoor
open Go Go.RowKit
set_option linter.unusedSimpArgs false
set_option linter.unusedVariables false
set_option linter.deprecated false
abbrev NA := List (List UInt8 × Int)
/-- The amounts under a name. -/
def vals : NA → List UInt8 → List Int
  | [], _ => []
  | p :: P, k => if p.1 = k then p.2 :: vals P k else vals P k
theorem vals_app : ∀ (P : NA) (p : List UInt8 × Int) (k : List UInt8), vals (P ++ [p]) k = if p.1 = k then vals P k ++ [p.2] else vals P k
  | [], p, k => by simp [vals]
  | q :: P, p, k => by
    rw [List.cons_append, vals, vals, vals_app P p k]
    by_cases h : q.1 = k <;> by_cases h2 : p.1 = k <;> simp [h, h2]
theorem vals_none : ∀ {P : NA} {k : List UInt8}, k ∉ P.map (·.1) → vals P k = []
  | [], _, _ => rfl
  | q :: P, k, h => by
    rw [List.map_cons, List.mem_cons, not_or] at h
    rw [vals, if_neg (fun e => h.1 e.symm), vals_none h.2]
/-- The map of the program. -/
def gOfP (P : NA) : Assoc (List Int) := P.foldl (fun L p => addG L p.1 p.2) []
theorem gOfP_snoc (P : NA) (p : List UInt8 × Int) : gOfP (P ++ [p]) = addG (gOfP P) p.1 p.2 := by unfold gOfP; rw [List.foldl_append]; rfl
theorem aget_addG : ∀ (L : Assoc (List Int)) (k : List UInt8) (v : Int) (k2 : List UInt8), (aget (addG L k v) k2).getD [] = if k = k2 then (aget L k2).getD [] ++ [v] else (aget L k2).getD []
  | [], k, v, k2 => by
    by_cases h : k = k2 <;> simp [addG, aget, h]
  | (k', l) :: L, k, v, k2 => by
    have ih := aget_addG L k v k2
    unfold aget at ih ⊢
    rw [addG]
    by_cases e : k' = k
    · subst e
      rw [if_pos rfl, List.find?_cons, List.find?_cons]
      by_cases e2 : k' = k2 <;> simp [e2]
    · rw [if_neg e, List.find?_cons, List.find?_cons]
      by_cases e2 : k' = k2
      · subst e2
        have : ¬ k = k' := fun h => e h.symm
        simp [this]
      · simp only [e2, decide_false]
        exact ih
theorem addG_mem : ∀ (L : Assoc (List Int)) (k : List UInt8) (v : Int) (x : List UInt8), x ∈ (addG L k v).map (·.1) ↔ x = k ∨ x ∈ L.map (·.1)
  | [], k, v, x => by simp [addG]
  | (k', l) :: L, k, v, x => by
    rw [addG]
    by_cases e : k' = k
    · rw [if_pos e]; subst e; simp
    · rw [if_neg e, List.map_cons, List.mem_cons, addG_mem L k v x, List.map_cons, List.mem_cons]
      constructor
      · rintro (h | h | h); exact .inr (.inl h); exact .inl h; exact .inr (.inr h)
      · rintro (h | h | h); exact .inr (.inl h); exact .inl h; exact .inr (.inr h)
theorem addG_nodup : ∀ {L : Assoc (List Int)} (k : List UInt8) (v : Int), (L.map (·.1)).Nodup → ((addG L k v).map (·.1)).Nodup
  | [], k, v, _ => by simp [addG]
  | (k', l) :: L, k, v, h => by
    obtain ⟨h1, h2⟩ := List.nodup_cons.1 h
    rw [addG]
    by_cases e : k' = k
    · rw [if_pos e]; exact h
    · rw [if_neg e]
      refine List.nodup_cons.2 ⟨fun hm => ?_, addG_nodup k v h2⟩
      rcases (addG_mem L k v _).1 hm with h3 | h3
      · exact e h3
      · exact h1 h3
theorem addG_len : ∀ (L : Assoc (List Int)) (k : List UInt8) (v : Int), (addG L k v).length ≤ L.length + 1
  | [], k, v => by simp [addG]
  | (k', l) :: L, k, v => by
    rw [addG]
    split
    · simp
    · have := addG_len L k v; simp; omega
theorem addG_row : ∀ (L : Assoc (List Int)) (k : List UInt8) (v : Int) (B : Nat), (∀ p ∈ L, p.2.length ≤ B) → ∀ p ∈ addG L k v, p.2.length ≤ B + 1
  | [], k, v, B, _, p, hp => by obtain rfl := List.mem_singleton.1 hp; simp
  | (k', l) :: L, k, v, B, h, p, hp => by
    rw [addG] at hp
    split at hp
    · rcases List.mem_cons.1 hp with rfl | hp
      · have := h _ (List.mem_cons_self ..); dsimp only at this; simp; omega
      · have := h _ (List.mem_cons_of_mem _ hp); omega
    · rcases List.mem_cons.1 hp with rfl | hp
      · have := h _ (List.mem_cons_self ..); omega
      · exact addG_row L k v B (fun q hq => h q (List.mem_cons_of_mem _ hq)) p hp
structure GInv (P : NA) (L : Assoc (List Int)) : Prop where
  nd : (L.map (·.1)).Nodup
  mem : ∀ k, k ∈ L.map (·.1) ↔ k ∈ P.map (·.1)
  val : ∀ k, (aget L k).getD [] = vals P k
  len : L.length ≤ P.length
  row : ∀ p ∈ L, p.2.length ≤ P.length
theorem GInv.step {P : NA} {L : Assoc (List Int)} (h : GInv P L) (p : List UInt8 × Int) : GInv (P ++ [p]) (addG L p.1 p.2) := by
  refine ⟨addG_nodup _ _ h.nd, fun k => ?_, fun k => ?_, ?_, ?_⟩
  · rw [addG_mem, h.mem k, List.map_append, List.mem_append]
    simp only [List.map_cons, List.map_nil, List.mem_singleton]
    exact Or.comm
  · rw [aget_addG, vals_app, h.val k]
  · have := addG_len L p.1 p.2; have := h.len; simp; omega
  · rw [List.length_append, List.length_cons, List.length_nil, Nat.zero_add]
    exact addG_row L _ _ _ h.row
theorem gOfP_inv (P : NA) : GInv P (gOfP P) := by
  suffices h : ∀ (Q P0 : NA) (L : Assoc (List Int)), GInv P0 L → GInv (P0 ++ Q) (Q.foldl (fun L p => addG L p.1 p.2) L) by
    have := h P [] [] ⟨List.nodup_nil, fun k => by simp, fun k => rfl, Nat.le_refl _, fun p hp => by cases hp⟩
    rwa [List.nil_append] at this
  intro Q
  induction Q with
  | nil => intro P0 L h; rwa [List.append_nil]
  | cons p Q ih =>
    intro P0 L h
    have := ih _ _ (h.step p)
    rwa [List.append_assoc] at this
/-- A name put into an ascending list. -/
def insS : List (List UInt8) → List UInt8 → List (List UInt8)
  | [], s => [s]
  | x :: l, s => if slt s x = true then s :: x :: l else x :: insS l s
def addS (l : List (List UInt8)) (s : List UInt8) : List (List UInt8) := if s ∈ l then l else insS l s
def RiseS (l : List (List UInt8)) : Prop := l.Pairwise (fun x y => slt x y = true)
theorem insS_mem : ∀ (l : List (List UInt8)) (s x : List UInt8), x ∈ insS l s ↔ x = s ∨ x ∈ l
  | [], s, x => by simp [insS]
  | y :: l, s, x => by
    rw [insS]
    split
    · rw [List.mem_cons]
    · rw [List.mem_cons, insS_mem l s x, List.mem_cons]
      constructor
      · rintro (h | h | h); exact .inr (.inl h); exact .inl h; exact .inr (.inr h)
      · rintro (h | h | h); exact .inr (.inl h); exact .inl h; exact .inr (.inr h)
theorem insS_rise : ∀ {l : List (List UInt8)} {s : List UInt8}, RiseS l → s ∉ l → RiseS (insS l s)
  | [], s, _, _ => List.pairwise_cons.2 ⟨fun x hx => by simp at hx, List.Pairwise.nil⟩
  | y :: l, s, h, hs => by
    obtain ⟨h1, h2⟩ := List.pairwise_cons.1 h
    rw [List.mem_cons, not_or] at hs
    rw [insS]
    split
    · rename_i c
      refine List.pairwise_cons.2 ⟨fun x hx => ?_, h⟩
      rcases List.mem_cons.1 hx with rfl | hx
      · exact c
      · exact slt_trans c (h1 x hx)
    · rename_i c
      refine List.pairwise_cons.2 ⟨fun x hx => ?_, insS_rise h2 hs.2⟩
      rcases (insS_mem l s x).1 hx with rfl | hx
      · rcases slt_tri x y with h3 | h3 | h3
        · exact absurd h3 c
        · exact absurd h3 hs.1
        · exact h3
      · exact h1 x hx
theorem insS_len : ∀ (l : List (List UInt8)) (s : List UInt8), (insS l s).length = l.length + 1
  | [], s => rfl
  | y :: l, s => by rw [insS]; split <;> simp [insS_len l s]
theorem addS_mem (l : List (List UInt8)) (s x : List UInt8) : x ∈ addS l s ↔ x = s ∨ x ∈ l := by
  unfold addS
  split
  · rename_i h; exact ⟨.inr, fun h2 => h2.elim (fun e => e ▸ h) id⟩
  · exact insS_mem l s x
theorem addS_rise {l : List (List UInt8)} {s : List UInt8} (h : RiseS l) : RiseS (addS l s) := by
  unfold addS
  split
  · exact h
  · rename_i hs; exact insS_rise h hs
theorem addS_len (l : List (List UInt8)) (s : List UInt8) : (addS l s).length ≤ l.length + 1 := by
  unfold addS
  split
  · omega
  · rw [insS_len]; omega
/-- The names, ascending. -/
def namesP (P : NA) : List (List UInt8) := P.foldl (fun l p => addS l p.1) []
theorem namesP_snoc (P : NA) (p : List UInt8 × Int) : namesP (P ++ [p]) = addS (namesP P) p.1 := by unfold namesP; rw [List.foldl_append]; rfl
theorem namesP_inv (P : NA) : RiseS (namesP P) ∧ (∀ x, x ∈ namesP P ↔ x ∈ P.map (·.1)) ∧ (namesP P).length ≤ P.length := by
  suffices h : ∀ (Q : NA) (l : List (List UInt8)), RiseS l → RiseS (Q.foldl (fun l p => addS l p.1) l) ∧ (∀ x, x ∈ Q.foldl (fun l p => addS l p.1) l ↔ x ∈ l ∨ x ∈ Q.map (·.1)) ∧ (Q.foldl (fun l p => addS l p.1) l).length ≤ l.length + Q.length by
    have := h P [] List.Pairwise.nil
    unfold namesP
    simpa using this
  intro Q
  induction Q with
  | nil => intro l h; exact ⟨h, fun x => by simp, by simp⟩
  | cons p Q ih =>
    intro l h
    obtain ⟨h1, h2, h3⟩ := ih (addS l p.1) (addS_rise h)
    have := addS_len l p.1
    refine ⟨h1, fun x => ?_, by rw [List.foldl_cons, List.length_cons]; omega⟩
    rw [List.foldl_cons, h2 x, addS_mem, List.map_cons, List.mem_cons]
    constructor
    · rintro ((h | h) | h); exact .inr (.inl h); exact .inl h; exact .inr (.inr h)
    · rintro (h | h | h); exact .inl (.inr h); exact .inl (.inl h); exact .inr h
theorem names_sort (P : NA) : sortS ((gOfP P).map (·.1)) = namesP P := by
  have hg := gOfP_inv P
  obtain ⟨h1, h2, _⟩ := namesP_inv P
  exact rise_eq (rise_of (sortS_sorted _) ((sortS_perm _).nodup_iff.2 hg.nd)) h1 fun x => by rw [(sortS_perm _).mem_iff, hg.mem, h2]
/-- The sums of lists, in order; none: one of them is no amount. -/
def upGo (f : List UInt8 → List Int) : List (List UInt8) → Option (List Int)
  | [] => some []
  | k :: ks => if (sumF 0 (f k)).2 ≠ 0 then none else (upGo f ks).map ((sumF 0 (f k)).1 :: ·)
theorem upGo_congr {f g : List UInt8 → List Int} : ∀ {ks : List (List UInt8)}, (∀ k ∈ ks, f k = g k) → upGo f ks = upGo g ks
  | [], _ => rfl
  | k :: ks, h => by rw [upGo, upGo, h k (List.mem_cons_self ..), upGo_congr fun x hx => h x (List.mem_cons_of_mem _ hx)]
theorem upGo_len {f : List UInt8 → List Int} : ∀ {ks : List (List UInt8)} {a : List Int}, upGo f ks = some a → a.length = ks.length
  | [], a, h => by injection h with h; subst h; rfl
  | k :: ks, a, h => by
    rw [upGo] at h
    split at h
    · cases h
    · obtain ⟨b, h1, h2⟩ := Option.map_eq_some_iff.1 h
      rw [← h2, List.length_cons, List.length_cons, upGo_len h1]
theorem sumF_facts : ∀ {l : List Int} {n m : Int}, sumF n l = (m, 0) → m = n + l.sum ∧ (∀ x ∈ l, fitB x = true) ∧ (l = [] ∨ fitB m = true)
  | [], n, m, h => by injection h with h1 h2; subst h1; simp
  | x :: l, n, m, h => by
    rw [sumF] at h
    split at h
    · rename_i c
      rw [Bool.and_eq_true] at c
      obtain ⟨h1, h2, h3⟩ := sumF_facts h
      refine ⟨by rw [h1, List.sum_cons]; omega, fun y hy => ?_, .inr ?_⟩
      · rcases List.mem_cons.1 hy with rfl | hy
        · exact c.1
        · exact h2 y hy
      · rcases h3 with rfl | h3
        · rw [h1]; simpa using c.2
        · exact h3
    · injection h with h1 h2; cases h2
theorem sumF_err (l : List Int) (n : Int) : (sumF n l).2 = 0 ∨ (sumF n l) = (0, 11) := by
  induction l generalizing n with
  | nil => exact .inl rfl
  | cons x l ih =>
    rw [sumF]
    split
    · exact ih _
    · exact .inr rfl
theorem vals_zip_sum : ∀ {P : NA} {ks : List (List UInt8)}, ks.Nodup → (∀ p ∈ P, p.1 ∈ ks) → (ks.map fun k => (vals P k).sum).sum = (P.map (·.2)).sum
  | [], ks, _, _ => by
    simp only [vals, List.sum_nil, List.map_nil]
    induction ks with
    | nil => rfl
    | cons k ks ih => rw [List.map_cons, List.sum_cons]; simp_all
  | p :: P, ks, hn, h => by
    have ih := vals_zip_sum (P := P) hn fun q hq => h q (List.mem_cons_of_mem _ hq)
    have hp := h p (List.mem_cons_self ..)
    have key : ∀ {ks : List (List UInt8)}, ks.Nodup → p.1 ∈ ks → (ks.map fun k => (vals (p :: P) k).sum).sum = p.2 + (ks.map fun k => (vals P k).sum).sum := by
      intro ks
      induction ks with
      | nil => intro _ h; cases h
      | cons k ks ih2 =>
        intro hn hp
        obtain ⟨h1, h2⟩ := List.nodup_cons.1 hn
        rw [List.map_cons, List.sum_cons, List.map_cons, List.sum_cons, vals]
        by_cases e : p.1 = k
        · rw [if_pos e, List.sum_cons]
          have : (ks.map fun k => (vals (p :: P) k).sum) = ks.map fun k => (vals P k).sum := List.map_congr_left fun x hx => by
            rw [vals, if_neg (fun e2 => h1 (by rw [← e, e2]; exact hx))]
          rw [this]; omega
        · rw [if_neg e, ih2 h2 ((List.mem_cons.1 hp).resolve_left e)]; omega
    rw [key hn hp, ih, List.map_cons, List.sum_cons]
theorem upGo_facts {f : List UInt8 → List Int} : ∀ {ks : List (List UInt8)} {a : List Int}, upGo f ks = some a → a = ks.map (fun k => (f k).sum) ∧ (∀ k ∈ ks, ∀ x ∈ f k, fitB x = true) ∧ ∀ k ∈ ks, f k ≠ [] → fitB (f k).sum = true
  | [], a, h => by injection h with h; subst h; simp
  | k :: ks, a, h => by
    rw [upGo] at h
    split at h
    · cases h
    · rename_i c
      obtain ⟨b, h1, h2⟩ := Option.map_eq_some_iff.1 h
      obtain ⟨g1, g2, g3⟩ := upGo_facts h1
      have he : sumF 0 (f k) = ((sumF 0 (f k)).1, 0) := Prod.ext rfl (by simpa using c)
      obtain ⟨s1, s2, s3⟩ := sumF_facts he
      rw [Int.zero_add] at s1
      refine ⟨by rw [← h2, g1, List.map_cons, s1], fun x hx => ?_, fun x hx hne => ?_⟩
      · rcases List.mem_cons.1 hx with rfl | hx
        · exact s2
        · exact g2 x hx
      · rcases List.mem_cons.1 hx with rfl | hx
        · rcases s3 with s3 | s3
          · exact absurd s3 hne
          · rw [← s1]; exact s3
        · exact g3 x hx hne
theorem vals_mem : ∀ {P : NA} {p : List UInt8 × Int}, p ∈ P → p.2 ∈ vals P p.1
  | q :: P, p, h => by
    rw [vals]
    rcases List.mem_cons.1 h with rfl | h
    · rw [if_pos rfl]; exact List.mem_cons_self ..
    · split
      · exact List.mem_cons_of_mem _ (vals_mem h)
      · exact vals_mem h
/-- What comes of amounts under names. -/
def upP (P : NA) : Option (List Int) := upGo (vals P) (namesP P)
structure UpF (P : NA) (a : List Int) : Prop where
  len : a.length = (namesP P).length
  le : a.length ≤ P.length
  rise : ∀ i (h : i < (namesP P).length) (h' : i - 1 < (namesP P).length), 0 < i → slt (namesP P)[i - 1] (namesP P)[i] = true
  sum : a.sum = (P.map (·.2)).sum
  fit : ∀ p ∈ P, fitB p.2 = true
  fits : ∀ x ∈ a, fitB x = true
theorem upP_facts {P : NA} {a : List Int} (h : upP P = some a) : UpF P a := by
  obtain ⟨h1, h2, h3⟩ := upGo_facts h
  obtain ⟨r1, r2, r3⟩ := namesP_inv P
  have hl := upGo_len h
  have nd : (namesP P).Nodup := r1.imp fun {x y} h e => by subst e; rw [slt_irr] at h; cases h
  have hmem : ∀ p ∈ P, p.1 ∈ namesP P := fun p hp => (r2 _).2 (List.mem_map.2 ⟨p, hp, rfl⟩)
  refine ⟨hl, by omega, fun i h h' h0 => List.pairwise_iff_getElem.1 r1 (i - 1) i h' h (by omega), ?_, fun p hp => h2 p.1 (hmem p hp) _ (vals_mem hp), fun x hx => ?_⟩
  · rw [h1]; exact vals_zip_sum nd hmem
  · rw [h1] at hx
    obtain ⟨k, hk, rfl⟩ := List.mem_map.1 hx
    refine h3 k hk fun e => ?_
    obtain ⟨p, hp, hpk⟩ := List.mem_map.1 ((r2 k).1 hk)
    have := vals_mem hp
    rw [hpk, e] at this
    cases this
end Go.Proofs.YtkdkjbneohdofaaDoor
